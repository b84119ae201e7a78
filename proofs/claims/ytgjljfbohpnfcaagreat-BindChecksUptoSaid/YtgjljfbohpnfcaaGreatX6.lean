/-
  Texts joined: P3 B14 B15 B16 S18 B17 B18 P4 R1 B19 B20 B21 SR SE SQ B22 Shape R2 R3 R4 U1 C1 C2 C3.
-/
import Derived.Test.YtgjljfbohpnfcaaGreatX5
import Derived.Test.YtgjljfbohpnfcaaGreatX3
import Derived.Test.YtgjljfbohpnfcaaGreatRows
import Derived.Test.YtgjljfbohpnfcaaGreatX4
import Derived.Shelf.Vars

namespace Go.Proofs.YtgjljfbohpnfcaaGreat
set_option linter.unusedVariables false
set_option linter.unusedSimpArgs false
def Rs.item (s : Rs) (x : Item) : Rs :=
  let s1 := s.fail (checkX s.old x.e true)
  let s2 := if kindF s1.vars x.as_ ≠ 0 then s1.fail 7 else s1
  let k := if x.e.op = 2 then kindF s2.old x.e.name else 4
  { s2 with vars := s2.vars ++ [⟨x.as_, if k = 0 then 4 else k⟩] }
def Rs.itemL (s : Rs) (l : List Item) : Rs := l.foldl Rs.item s
def Rs.sorts (s : Rs) (l : List SortK) : Rs := l.foldl (fun s x => s.fail (checkX s.vars x.e false)) s
def Rs.unwind (s : Rs) (c : Clause) : Rs :=
  let s1 := s.fail (checkX s.vars c.e false)
  let s2 := if kindF s1.vars c.name ≠ 0 then s1.fail 7 else s1
  s2.intro c.name 4
def Rs.set1 (s : Rs) (x : SetI) : Rs :=
  let s1 := s.element x.var (!decide (x.label = ⟨#[]⟩))
  if x.label = ⟨#[]⟩ then s1.fail (checkX s1.vars x.e false) else s1
def Rs.setL (s : Rs) (l : List SetI) : Rs := l.foldl Rs.set1 s
def Rs.nameL (s : Rs) (l : List ByteArray) : Rs := l.foldl (fun s n => s.element n false) s
def Rs.clause (s : Rs) (c : Clause) : Rs :=
  let s1 := s.pathL c.paths
  let s2 := if c.kind = 2 then s1.unwind c else s1
  let s3 := if c.kind = 3 ∨ c.kind = 4 then (Rs.itemL { s2 with vars := [] } c.items).sorts c.order else s2
  ((s3.chks c.wh).setL c.sets).nameL c.names
theorem check_var {s : List Cnt} {e : Expr} {w : Bool} (h : checkX s e w = 0) (ho : e.op = 2) : kindF s e.name ≠ 0 := by
  intro hk
  have hm : e.name ∈ usesF e := by
    unfold usesF
    rw [mem_usesN, namesE_eq, if_pos ho]
    simp
  have hb : badU s (usesF e) = true := List.any_eq_true.2 ⟨_, hm, decide_eq_true hk⟩
  unfold checkX at h
  rw [if_pos hb] at h
  cases h
theorem bn_item_ne {b : Bn} {x : Item} (h : b.e ≠ 0) : (b.item x).e = b.e := by
  unfold Bn.item
  dsimp only
  rw [fail_ne h]
  split
  · rw [fail_ne h, bn_intro_ne h]
  · rw [bn_intro_ne h]
theorem rs_item_ne {s : Rs} {x : Item} (h : s.e ≠ 0) : (s.item x).e = s.e := by
  unfold Rs.item
  dsimp only
  rw [Rs.fail_ne h]
  have : (if kindF s.vars x.as_ ≠ 0 then s.fail 7 else s) = s := by split; exact Rs.fail_ne h; rfl
  rw [this]
theorem Sim.item {b : Bn} {s : Rs} (h : Sim b s) (x : Item) (hl : b.e = 0 → b.now.length < 24) : Sim (b.item x) (s.item x) ∧ ((b.item x).e = 0 → (b.item x).now.length ≤ b.now.length + 1) := by
  by_cases h0 : b.e = 0
  · obtain ⟨h2, h3⟩ := h.2 h0
    have hs0 : s.e = 0 := h.1 ▸ h0
    have hl := hl h0
    by_cases hc : checkX s.old x.e true = 0
    · have e1 : b.fail (checkX b.old x.e true) = b := by rw [h3, hc, Bn.fail_zero h0]; cases b; simp at h0; simp [h0]
      have e2 : s.fail (checkX s.old x.e true) = s := by rw [hc, Rs.fail_zero hs0]; cases s; simp at hs0; simp [hs0]
      unfold Bn.item Rs.item
      dsimp only
      rw [e1, e2, h2]
      by_cases hk : kindF s.vars x.as_ = 0
      · have e3 : ∀ {α : Type} (a c : α), (if kindF s.vars x.as_ ≠ 0 then a else c) = c := fun a c => if_neg (by simp [hk])
        rw [e3, e3]
        have hn : ¬ 24 ≤ b.now.length := by omega
        have hkk : (if (if x.e.op = 2 then kindF s.old x.e.name else 4) = 0 then (4 : Int) else (if x.e.op = 2 then kindF s.old x.e.name else 4)) = if x.e.op = 2 then kindF s.old x.e.name else 4 := by
          by_cases ho : x.e.op = 2
          · rw [if_pos ho, if_neg (check_var hc ho)]
          · rw [if_neg ho]; rfl
        rw [hkk, h3]
        unfold Bn.intro
        rw [if_neg hn]
        exact ⟨⟨h.1, fun _ => ⟨by show b.now ++ _ = _; rw [h2], h3⟩⟩, fun _ => by show (b.now ++ _).length ≤ _; simp [h2]⟩
      · have e3 : ∀ {α : Type} (a c : α), (if kindF s.vars x.as_ ≠ 0 then a else c) = a := fun a c => if_pos hk
        rw [e3, e3]
        have hf := h.fail 7
        have n1 : (b.fail 7).e ≠ 0 := by rw [Bn.fail_zero h0]; show (7 : Int) ≠ 0; decide
        refine ⟨hf.stay n1 (bn_intro_ne n1) rfl, fun h4 => ?_⟩
        rw [bn_intro_ne n1] at h4
        exact absurd h4 n1
    · have hf := h.chkO x.e true
      have n1 : (b.fail (checkX b.old x.e true)).e ≠ 0 := by rw [Bn.fail_zero h0, h3]; exact hc
      have n2 : (s.fail (checkX s.old x.e true)).e ≠ 0 := hf.1 ▸ n1
      have e1 : (b.item x).e = (b.fail (checkX b.old x.e true)).e := by
        unfold Bn.item
        dsimp only
        split
        · rw [fail_ne n1, bn_intro_ne n1]
        · rw [bn_intro_ne n1]
      have e2 : (s.item x).e = (s.fail (checkX s.old x.e true)).e := by
        unfold Rs.item
        dsimp only
        split
        · rw [Rs.fail_ne n2]
        · rfl
      refine ⟨hf.stay n1 e1 e2, fun h4 => ?_⟩
      rw [e1] at h4
      exact absurd h4 n1
  · refine ⟨h.stay h0 (bn_item_ne h0) (rs_item_ne (h.1 ▸ h0)), fun h4 => ?_⟩
    rw [bn_item_ne h0] at h4
    exact absurd h4 h0
theorem Sim.itemL : ∀ {l : List Item} {b : Bn} {s : Rs}, Sim b s → (b.e = 0 → b.now.length + l.length ≤ 24) → Sim (b.itemL l) (s.itemL l)
  | [], _, _, h, _ => h
  | a :: r, b, s, h, hl => by
    have hl' := fun q => hl q
    simp only [List.length_cons] at hl'
    obtain ⟨h1, h2⟩ := h.item a (fun q => by have := hl' q; omega)
    refine Sim.itemL (l := r) h1 fun q => ?_
    by_cases h0 : b.e = 0
    · have := hl' h0
      have := h2 q
      omega
    · rw [bn_item_ne h0] at q
      exact absurd q h0
theorem Sim.sorts : ∀ {l : List SortK} {b : Bn} {s : Rs}, Sim b s → Sim (b.sorts l) (s.sorts l)
  | [], _, _, h => h
  | a :: r, b, s, h => Sim.sorts (l := r) (h.chkN a.e false)
theorem Sim.unwind {b : Bn} {s : Rs} (h : Sim b s) (c : Clause) : Sim (b.unwind c) (s.unwind c) := by
  have h1 := h.chkN c.e false
  unfold Bn.unwind Rs.unwind
  dsimp only
  generalize b.fail (checkX b.now c.e false) = b1 at *
  generalize s.fail (checkX s.vars c.e false) = s1 at *
  by_cases h0 : b1.e = 0
  · rw [(h1.2 h0).1]
    split
    · exact (h1.fail 7).intro _ _
    · exact h1.intro _ _
  · have n2 : s1.e ≠ 0 := h1.1 ▸ h0
    have e1 : (if kindF b1.now c.name ≠ 0 then b1.fail 7 else b1) = b1 := by split; exact fail_ne h0; rfl
    have e2 : (if kindF s1.vars c.name ≠ 0 then s1.fail 7 else s1) = s1 := by split; exact Rs.fail_ne n2; rfl
    rw [e1, e2]
    exact h1.intro _ _
theorem zero_chk {e : Expr} (h : zeroE e = true) (s : List Cnt) (w : Bool) : checkX s e w = 0 := by
  unfold zeroE at h
  simp only [Bool.and_eq_true, decide_eq_true_eq] at h
  obtain ⟨⟨⟨⟨h1, _⟩, _⟩, _⟩, h5⟩ := h
  have hn : namesE e = [] := by rw [namesE_eq, h5, h1]; rfl
  have hu : usesF e = [] := by unfold usesF; rw [hn]; rfl
  have ha : aggE e = false := by
    rw [aggE_eq, h5, h1]
    rfl
  unfold checkX
  rw [hu, ha]
  rfl
theorem fail_nil (b : Bn) : b.fail 0 = b := by
  unfold Bn.fail
  split
  · rename_i h; cases b; simp at h; simp [h]
  · rfl
theorem Sim.set1 {b : Bn} {s : Rs} (h : Sim b s) (x : SetI) (hz : x.label ≠ ⟨#[]⟩ → zeroE x.e = true) : Sim (b.set1 x) (s.set1 x) := by
  have h1 := h.element x.var (decide (x.label = ⟨#[]⟩))
  unfold Bn.set1 Rs.set1
  dsimp only
  by_cases hl : x.label = ⟨#[]⟩
  · rw [if_pos hl]; exact h1.chkN x.e false
  · rw [if_neg hl, zero_chk (hz hl), fail_nil]; exact h1
theorem Sim.setL : ∀ {l : List SetI} {b : Bn} {s : Rs}, Sim b s → (∀ x ∈ l, x.label ≠ ⟨#[]⟩ → zeroE x.e = true) → Sim (b.setL l) (s.setL l)
  | [], _, _, h, _ => h
  | a :: r, b, s, h, hz => Sim.setL (l := r) (h.set1 a (hz a (by simp))) fun x hx => hz x (by simp [hx])
theorem Sim.nameL : ∀ {l : List ByteArray} {b : Bn} {s : Rs}, Sim b s → Sim (b.nameL l) (s.nameL l)
  | [], _, _, h => h
  | a :: r, b, s, h => Sim.nameL (l := r) (h.element a true)
structure Fits (c : Clause) : Prop where
  lo : 1 ≤ c.kind
  hi : c.kind ≤ 8
  paths : c.kind = 1 ∨ c.kind = 5 ∨ c.kind = 6 ∨ c.paths = []
  wh : c.kind = 1 ∨ c.kind = 3 ∨ c.wh = []
  sets : c.kind = 7 ∨ c.sets = []
  names : c.kind = 8 ∨ c.names = []
  items : c.kind = 3 ∨ c.kind = 4 → c.items.length ≤ 16
  zero : ∀ x ∈ c.sets, x.label ≠ ⟨#[]⟩ → zeroE x.e = true
theorem Sim.clause {b : Bn} {c : Clause} (hf : Fits c) (h0 : b.e = 0) : Sim (b.clause c) (Rs.clause ⟨b.now, b.now, c.kind, 0⟩ c) := by
  have hs : Sim ({ b with old := b.now } : Bn) ⟨b.now, b.now, c.kind, 0⟩ := ⟨h0, fun _ => ⟨rfl, rfl⟩⟩
  have p0 : c.paths = [] → (Rs.pathL ⟨b.now, b.now, c.kind, 0⟩ c.paths) = ⟨b.now, b.now, c.kind, 0⟩ := fun h => by rw [h]; rfl
  obtain ⟨f1, f2, f3, f4, f5, f6, f7, f8⟩ := hf
  unfold Bn.clause Rs.clause
  dsimp only
  by_cases hA : c.kind = 1 ∨ c.kind = 5 ∨ c.kind = 6
  · have w1 : ¬ c.kind = 2 := by omega
    have w2 : ¬ (c.kind = 3 ∨ c.kind = 4) := by omega
    rw [if_pos hA, if_neg w1, if_neg w2, f5.resolve_left (by omega), f6.resolve_left (by omega)]
    exact (hs.pathL rfl).chks
  rw [if_neg hA, p0 (by rcases f3 with h | h | h | h; exact absurd (.inl h) hA; exact absurd (.inr (.inl h)) hA; exact absurd (.inr (.inr h)) hA; exact h)]
  by_cases hB : c.kind = 2
  · have w2 : ¬ (c.kind = 3 ∨ c.kind = 4) := by omega
    rw [if_pos hB, if_pos hB, if_neg w2, f5.resolve_left (by omega), f6.resolve_left (by omega), (f4.resolve_left (by omega)).resolve_left (by omega)]
    exact hs.unwind c
  rw [if_neg hB, if_neg hB]
  by_cases hC : c.kind = 3 ∨ c.kind = 4
  · rw [if_pos hC, if_pos hC, f5.resolve_left (by omega), f6.resolve_left (by omega)]
    have hs2 : Sim ({ b with old := b.now, now := [] } : Bn) ⟨b.now, [], c.kind, 0⟩ := ⟨h0, fun _ => ⟨rfl, rfl⟩⟩
    have hit := f7 hC
    exact ((hs2.itemL fun _ => by simp; omega).sorts).chks
  rw [if_neg hC, if_neg hC, (f4.resolve_left (by omega)).resolve_left (by omega)]
  by_cases hD : c.kind = 7
  · rw [if_pos hD, f6.resolve_left (by omega)]
    exact hs.setL f8
  rw [if_neg hD, f5.resolve_left hD]
  by_cases hE : c.kind = 8
  · rw [if_pos hE]
    exact hs.nameL
  · omega
def goS (b : Bn) : List Clause → Nat → List Cnt × Int × Int
  | [], _ => (b.now, 0, 0)
  | c :: r, i => if (b.clause c).e ≠ 0 then ([], (i : Int), (b.clause c).e) else goS (b.clause c) r (i + 1)
def goR (vars : List Cnt) : List Clause → Nat → List Cnt × Int × Int
  | [], _ => (vars, 0, 0)
  | c :: r, i => if (Rs.clause ⟨vars, vars, c.kind, 0⟩ c).e ≠ 0 then ([], (i : Int), (Rs.clause ⟨vars, vars, c.kind, 0⟩ c).e) else goR (Rs.clause ⟨vars, vars, c.kind, 0⟩ c).vars r (i + 1)
theorem goS_eq : ∀ (l : List Clause) (b : Bn) (i : Nat), (∀ c ∈ l, Fits c) → b.e = 0 → goS b l i = goR b.now l i
  | [], b, i, _, _ => rfl
  | c :: r, b, i, hf, h0 => by
    have h := Sim.clause (b := b) (hf c (by simp)) h0
    rw [goS, goR]
    by_cases he : (b.clause c).e = 0
    · have he2 : (Rs.clause ⟨b.now, b.now, c.kind, 0⟩ c).e = 0 := h.1 ▸ he
      rw [if_neg (by simp [he]), if_neg (by simp [he2]), goS_eq r _ _ (fun x hx => hf x (by simp [hx])) he, (h.2 he).1]
    · have he2 : (Rs.clause ⟨b.now, b.now, c.kind, 0⟩ c).e ≠ 0 := h.1 ▸ he
      rw [if_pos he, if_pos he2, h.1]
theorem addE_zero {x e : Int} (h : addE x e = 0) : x = 0 ∧ e = 0 := by
  unfold addE at h
  split at h
  · rename_i hx; exact ⟨hx, h⟩
  · rename_i hx; exact absurd h hx
theorem fold_zero {α : Type} {f : Int → α → Int} {g : α → Int} (hfg : ∀ x a, f x a = 0 → x = 0 ∧ g a = 0) : ∀ (l : List α) {x : Int}, l.foldl f x = 0 → x = 0 ∧ ∀ a ∈ l, g a = 0
  | [], x, h => ⟨h, fun a ha => by cases ha⟩
  | a :: r, x, h => by
    obtain ⟨h1, h2⟩ := fold_zero hfg r h
    obtain ⟨h3, h4⟩ := hfg x a h1
    exact ⟨h3, fun y hy => by rcases List.mem_cons.1 hy with rfl | hy; exact h4; exact h2 y hy⟩
theorem fits_of {c : Clause} (h : clauseE c = 0) : Fits c := by
  unfold clauseE at h
  split at h
  · cases h
  rename_i hk
  split at h
  · cases h
  rename_i hcr
  have hst : strayB c = false := by
    cases hs : strayB c
    · rfl
    · exact absurd (.inr (.inr hs)) hk
  have hlo : 1 ≤ c.kind := by
    have : ¬ c.kind < 1 := fun q => hk (.inl q)
    omega
  have hhi : c.kind ≤ 8 := by
    have : ¬ 8 < c.kind := fun q => hk (.inr (.inl q))
    omega
  unfold strayB at hst
  simp only [Bool.or_eq_false_iff] at hst
  obtain ⟨_, hC, _, _, hI⟩ := hst
  unfold strayC at hC
  unfold strayI at hI
  simp only [Bool.or_eq_false_iff, Bool.and_eq_false_iff, decide_eq_false_iff_not, Bool.not_eq_false', isK, List.any_cons, List.any_nil, Bool.or_false, Bool.or_eq_true, decide_eq_true_eq] at hC hI
  have nil : ∀ {α : Type} {l : List α}, ¬ 0 < l.length → l = [] := fun {α l} q => List.eq_nil_of_length_eq_zero (by omega)
  unfold partsC at h
  obtain ⟨h1, _⟩ := fold_zero (f := nameS) (g := needE) (fun x a q => addE_zero q) c.names h
  obtain ⟨_, h2⟩ := fold_zero (f := setS) (g := setE) (fun x a q => addE_zero q) c.sets h1
  refine ⟨hlo, hhi, ?_, ?_, ?_, ?_, ?_, ?_⟩
  · rcases hC.1 with q | q
    · exact .inr (.inr (.inr (nil q)))
    · omega
  · rcases hC.2 with q | q
    · exact .inr (.inr (nil q))
    · omega
  · rcases hI.1 with q | q
    · exact .inr (nil q)
    · exact .inl q
  · rcases hI.2 with q | q
    · exact .inr (nil q)
    · exact .inl q
  · intro q
    unfold crowdB at hcr
    rw [if_neg (by omega), if_neg (by omega), if_pos q] at hcr
    simp only [Bool.or_eq_true, not_or, Bool.not_eq_true', inRg, Bool.and_eq_false_iff, decide_eq_false_iff_not] at hcr
    have := hcr.1.1
    omega
  · intro x hx hl
    have q := h2 x hx
    unfold setE at q
    split at q
    · cases q
    · rename_i hn
      cases hz : zeroE x.e
      · exact absurd (.inl ⟨hl, .inr hz⟩) hn
      · rfl
theorem goQ_fits {n : Nat} : ∀ {l : List Clause} {i : Nat}, (goQ n l i).2 = 0 → ∀ c ∈ l, clauseE c = 0
  | [], _, _, c, hc => by cases hc
  | a :: r, i, h, c, hc => by
    rw [goQ] at h
    split at h
    · rename_i q; exact absurd h q
    · rename_i q
      have q : clauseE a = 0 := by simpa using q
      split at h
      · cases h
      · rcases List.mem_cons.1 hc with rfl | hc
        · exact q
        · exact goQ_fits h c hc
theorem query_fits {q : Query} (h : (queryE q).2 = 0) : ∀ c ∈ q.clauses, Fits c := fun c hc => by
  unfold queryE at h
  split at h
  · cases h
  · exact fits_of (goQ_fits h c hc)
end Go.Proofs.YtgjljfbohpnfcaaGreat


namespace Go.Proofs.YtgjljfbohpnfcaaGreat
open Go.RowKit
set_option linter.unusedSimpArgs false
set_option linter.unusedVariables false
set_option maxRecDepth 100000
def Bn.zero : Bn := ⟨[], [], 0⟩
def cutN (q : Query) (n : Int) : Nat := (min (max n 0) (q.clauses.length : Int)).toNat
def scopeF (q : Query) (n : Int) : List Cnt × Int × Int := if (queryE q).2 ≠ 0 then ([], (queryE q).1, (queryE q).2) else goS Bn.zero (q.clauses.take (cutN q n)) 0
def triA (p : List Cnt × Int × Int) : AV := .tup [.slice 2 false (encRows p.1), .int .i64 p.2.1, .int .i64 p.2.2]
theorem goS_drop {b : Bn} {l : List Clause} {i : Nat} (h : i < l.length) : goS b (l.drop i) i = if (b.clause (ix l i)).e ≠ 0 then ([], (i : Int), (b.clause (ix l i)).e) else goS (b.clause (ix l i)) (l.drop (i + 1)) (i + 1) := by
  rw [List.drop_eq_getElem_cons h, goS, ix_lt h]
theorem gClause_1 {o n : List Cnt} {y : Int} {A : Blk} {Z : List Blk} {x : Clause} : gClause [.ptr 1 1 3 0 0, .agg [.int .i64 x.kind, .bool x.opt, .bool x.dist, .slice 3 false (encRows x.paths), .slice 9 false (encRows x.wh), .int .i64 x.e.op, .int .i64 x.e.v.kind, .int .i64 x.e.v.n, .int .i64 x.e.v.d, .str x.e.v.s, .slice 5 false (encRows x.e.v.l), .str x.e.name, .bool x.e.dist, .slice 9 false (encRows x.e.kids), .str x.name, .slice 10 false (encRows x.items), .slice 10 false (encRows x.order), .int .i64 x.skip, .int .i64 x.limit, .slice 13 false (encRows x.sets), .slice 1 false (encRows x.names)]] (A :: ⟨75, 3, [[.slice 2 false (encRows o), .slice 2 false (encRows n), .int .i64 y]], true, true⟩ :: Z) = some (OKB ⟨o, n, y⟩ ∧ GoodC x, .tup [], A :: BB (Bn.clause ⟨o, n, y⟩ x) :: Z) := by
  have h := gM_eq KB (f := fClause) (l := 1) (rest := [Enc.enc x]) (s := ⟨o, n, y⟩) (H := A :: BB ⟨o, n, y⟩ :: Z) rfl rfl rfl
  have e1 : (Enc.dec (Enc.enc x) : Clause) = x := Enc.dec_enc x
  simp only [e1, true_and] at h
  exact h
theorem zero_ok : OKB Bn.zero := ⟨Nat.zero_le _, Nat.zero_le _⟩
def GoodQ (q : Query) : Prop := WfQy q ∧ ∀ c ∈ q.clauses, GoodC c
section
variable {m : Int}
def sClone : List AV → Option (Prop × AV) := spec1 (fun (l : List Cnt) => l.length ≤ 24) (fun l => Enc.enc l)
set_option maxHeartbeats 4000000 in
theorem cloneP : PureOK Tryz.prog (G m) 26 sClone := by
  refine pure1 (C := C0 m) (sigC0 m) (mixC0 m) Tryz.func26 rfl rfl rfl (by kernel_rfl) (by decide) (fun l hl => ?_)
  rcases l with _ | ⟨a, r⟩
  · simp
  · simp at hl
    simp
    omega
noncomputable def CSc (m : Int) : Ctx := mkC Tryz.prog (G m) [(22, .pure sQuery), (25, .gen gClause), (26, .pure sClone)]
@[simp] theorem CSc_P (m : Int) : (CSc m).P = Tryz.prog := rfl
@[simp] theorem CSc_G (m : Int) : (CSc m).G = (G m) := rfl
@[simp] theorem CSc_1 (m : Int) : (CSc m).S 22 = .pure sQuery := rfl
@[simp] theorem CSc_2 (m : Int) : (CSc m).S 25 = .gen gClause := rfl
@[simp] theorem CSc_3 (m : Int) : (CSc m).S 26 = .pure sClone := rfl
theorem mixCSc (m : Int) : (CSc m).P.follows .mixedOrders = true := mixed
theorem sigCSc (m : Int) : SigOK (CSc m) := sigOK_cons (entryPure (queryP) Tryz.func22 rfl (by decide)) (sigOK_cons (entryGen (clauseBP) Tryz.func25 rfl (by decide)) (sigOK_cons (entryPure (cloneP) Tryz.func26 rfl (by decide)) (sigOK_nil _ _)))
def sScope : List AV → Option (Prop × AV) := spec2 (fun (q : Query) (_ : Int) => GoodQ q) (fun q n => triA (scopeF q n))
set_option maxHeartbeats 8000000 in
theorem scopeP : PureOK Tryz.prog (G m) 11 sScope := by
  refine pureH2 (C := CSc m) (sigCSc m) (mixCSc m) Tryz.func11 rfl rfl rfl [10] (by kernel_rfl) (by decide) (fun q n ⟨hw, hg⟩ => ?_)
  obtain ⟨a, e, hQ⟩ : ∃ a e, queryE q = (a, e) := ⟨_, _, rfl⟩
  obtain ⟨R, hR⟩ : ∃ R, scopeF q n = R := ⟨_, rfl⟩
  rw [hR]
  unfold scopeF at hR
  rw [hQ] at hR
  by_cases he : e = 0
  case neg =>
    rw [if_pos he] at hR
    simp [sQuery, hw, hQ, he, ← hR, triA]
  subst he
  rw [if_neg (by simp)] at hR
  obtain ⟨k, hk⟩ : ∃ k, cutN q n = k := ⟨_, rfl⟩
  have hE : (if (q.clauses.length : Int) < if n < 0 then 0 else n then (q.clauses.length : Int) else if n < 0 then 0 else n) = (k : Int) := by
    rw [← hk]
    unfold cutN
    have : (0 : Int) ≤ min (max n 0) q.clauses.length := by omega
    rw [Int.toNat_of_nonneg this]
    split <;> split at * <;> omega
  have hkl : k ≤ q.clauses.length := by rw [← hk]; unfold cutN; omega
  rw [hk] at hR
  have hql : q.clauses.length ≤ 9223372036854775807 := hw.1
  have hmin : min k q.clauses.length = k := by omega
  simp [sQuery, hw, hQ, hE, hkl, hmin]
  obtain ⟨l, hl⟩ : ∃ l, q.clauses.take k = l := ⟨_, rfl⟩
  have hll : l.length = k := by rw [← hl, List.length_take]; omega
  have hlg : ∀ c ∈ l, GoodC c := fun c hc => hg c (List.mem_of_mem_take (hl ▸ hc))
  rw [hl] at hR
  refine AW.weak (weak_shut 1 rfl [] (by simp [reach]) (by simp)) ?_
  simp [view, nrmC, frzL, hl]
  refine loop_ruleH (C := CSc m) (sigCSc m) (mixCSc m) [10] (fun p : Nat × Bn => ⟨[(9, .ptr 1 1 3 0 0), (29, Enc.enc l), (30, .int .i64 l.length), (31, .int .i64 p.1)], [QB q, BB p.2]⟩) (fun p => p.1 ≤ l.length ∧ OKB p.2 ∧ p.2.e = 0 ∧ goS p.2 (l.drop p.1) p.1 = R) (fun p => l.length - p.1) (by kernel_rfl) ⟨(0, Bn.zero), ⟨Nat.zero_le _, zero_ok, rfl, hR⟩, weak_eq (by simp [hll]) (by simp [QB, BB, Bn.zero])⟩ (fun ⟨i, b⟩ ⟨hi, hb, hb0, hs⟩ => ?_)
  simp only at hi hb hb0 hs ⊢
  by_cases hlt : i < l.length
  · have i1 : I64 ((i : Int) + 1) := by unfold I64; omega
    have hgc := hlg _ (ix_mem hlt)
    rw [goS_drop hlt] at hs
    have hbc := hb.clause (ix l i)
    by_cases he : (b.clause (ix l i)).e = 0
    · rw [if_neg (by simp [he])] at hs
      simp [QB, BB, hlt, rowAt_enc hlt, gClause_1, hb, hgc, he, i1]
      exact ⟨i + 1, b.clause (ix l i), ⟨by omega, hbc, he, hs⟩, by omega, weak_keep 2 (by simp) (by simp) (by simp [AV.clean, AV.clean1]) (by simp) (by simp [QB, BB, he])⟩
    · rw [if_pos he] at hs
      simp [QB, BB, hlt, rowAt_enc hlt, gClause_1, hb, hgc, he]
      refine AW_regionF (sigCSc m) (mixCSc m) [.pure, .pure, .read, .pure, .pure, .pure] [[],[],[1],[],[3,0],[0,3,4,1,2]] (by kernel_rfl) (by kernel_rfl) (by kernel_rfl) (by kernel_rfl) ?_
      simp [QB, BB, ← hs, triA]
  · rw [List.drop_eq_nil_of_le (by omega), goS] at hs
    have hnl : b.now.length ≤ 24 := hb.2
    simp [QB, BB, hlt, sClone, hnl, ← hs, triA]
end
end Go.Proofs.YtgjljfbohpnfcaaGreat


namespace Go.Proofs.YtgjljfbohpnfcaaGreat
open Go.RowKit
set_option linter.unusedSimpArgs false
set_option linter.unusedVariables false
set_option maxRecDepth 100000
def checkQ (q : Query) : List ByteArray × Int × Int :=
  if (scopeF q q.clauses.length).2.2 ≠ 0 then ([], (scopeF q q.clauses.length).2.1, (scopeF q q.clauses.length).2.2) else (if (ix q.clauses (q.clauses.length - 1)).kind = 4 then (scopeF q q.clauses.length).1.map Cnt.Name else [], 0, 0)
def triS (p : List ByteArray × Int × Int) : AV := .tup [.slice 1 false (encRows p.1), .int .i64 p.2.1, .int .i64 p.2.2]
theorem queryE_nil {q : Query} (h : (queryE q).2 = 0) : 0 < q.clauses.length := by
  rcases Nat.eq_zero_or_pos q.clauses.length with h0 | h0
  · have := List.eq_nil_of_length_eq_zero h0
    unfold queryE at h
    rw [if_pos (.inl this)] at h
    cases h
  · exact h0
theorem scope_query {q : Query} {n : Int} (h : (scopeF q n).2.2 = 0) : (queryE q).2 = 0 := by
  by_cases he : (queryE q).2 = 0
  · exact he
  · unfold scopeF at h
    rw [if_pos he] at h
    exact h
theorem goS_len : ∀ (l : List Clause) (b : Bn) (i : Nat), OKB b → (goS b l i).1.length ≤ 24
  | [], b, i, h => h.2
  | c :: r, b, i, h => by
    rw [goS]
    split
    · exact Nat.zero_le _
    · exact goS_len r _ _ (h.clause c)
theorem scope_len (q : Query) (n : Int) : (scopeF q n).1.length ≤ 24 := by
  unfold scopeF
  split
  · exact Nat.zero_le _
  · exact goS_len _ _ _ zero_ok
section
variable {m : Int}
noncomputable def CCq (m : Int) : Ctx := mkC Tryz.prog (G m) [(11, .pure sScope)]
@[simp] theorem CCq_P (m : Int) : (CCq m).P = Tryz.prog := rfl
@[simp] theorem CCq_G (m : Int) : (CCq m).G = (G m) := rfl
@[simp] theorem CCq_1 (m : Int) : (CCq m).S 11 = .pure sScope := rfl
theorem mixCCq (m : Int) : (CCq m).P.follows .mixedOrders = true := mixed
theorem sigCCq (m : Int) : SigOK (CCq m) := sigOK_cons (entryPure (scopeP) Tryz.func11 rfl (by decide)) (sigOK_nil _ _)
def sCheckQ : List AV → Option (Prop × AV) := spec1 (fun (q : Query) => GoodQ q) (fun q => triS (checkQ q))
set_option maxHeartbeats 8000000 in
theorem checkQP : PureOK Tryz.prog (G m) 14 sCheckQ := by
  refine pureH1 (C := CCq m) (sigCCq m) (mixCCq m) Tryz.func14 rfl rfl rfl [] (by kernel_rfl) (by decide) (fun q hg => ?_)
  have hql : q.clauses.length ≤ 9223372036854775807 := hg.1.1
  obtain ⟨s, i, e, hS⟩ : ∃ s i e, scopeF q q.clauses.length = (s, i, e) := ⟨_, _, _, rfl⟩
  obtain ⟨R, hR⟩ : ∃ R, checkQ q = R := ⟨_, rfl⟩
  rw [hR]
  have hsl := scope_len q q.clauses.length
  have hqe := fun h => queryE_nil (scope_query (q := q) (n := q.clauses.length) h)
  unfold checkQ at hR
  rw [hS] at hR hsl hqe
  simp only at hR hsl hqe
  by_cases he : e = 0
  case neg =>
    rw [if_pos he] at hR
    simp [sScope, hg, hS, triA, he, ← hR, triS]
  subst he
  have h0 := hqe rfl
  rw [if_neg (by simp)] at hR
  have i1 : I64 ((q.clauses.length : Int) - 1) := by unfold I64; omega
  have i2 : ((q.clauses.length : Int) - 1).toNat = q.clauses.length - 1 := by omega
  have i3 : q.clauses.length - 1 < q.clauses.length := by omega
  have i4 : (1 : Int) ≤ q.clauses.length := by omega
  have i5 : (q.clauses.length : Int) - 1 < q.clauses.length := by omega
  rcases em2 ((ix q.clauses (q.clauses.length - 1)).kind = 4) with hk | hk
  case inr =>
    rw [if_neg (of_eq_false hk)] at hR
    simp [sScope, hg, hS, triA, ← hR, triS, i1, i2, i3, i4, i5, rowAt_enc i3, hk]
  rw [if_pos (of_eq_true hk)] at hR
  simp [sScope, hg, hS, triA, ← hR, triS, i1, i2, i3, i4, i5, rowAt_enc i3, hk]
  refine AW.weak (weak_nil 8 1 9 rfl (by decide)) ?_
  refine loop_ruleH (C := CCq m) (sigCCq m) (mixCCq m) [] (fun i : Nat => ⟨[(8, .own 1 i), (34, Enc.enc s), (35, .int .i64 s.length), (36, .int .i64 i)], [QB q, SB ((s.take i).map Cnt.Name)]⟩) (fun i => i ≤ s.length) (fun i => s.length - i) (by kernel_rfl) ⟨0, Nat.zero_le _, weak_eq (by simp) (by simp [QB, SB])⟩ (fun i hi => ?_)
  have htl : ((s.take i).map Cnt.Name).length = i := by rw [List.length_map, List.length_take]; omega
  have htl2 : (s.take i).length = i := by rw [List.length_take]; omega
  by_cases hlt : i < s.length
  · have i6 : I64 ((i : Int) + 1) := by unfold I64; omega
    have ht : (s.take (i + 1)).map Cnt.Name = (s.take i).map Cnt.Name ++ [(ix s i).Name] := by rw [List.take_succ_eq_append_getElem hlt, List.map_append, ix_lt hlt]; rfl
    generalize (s.take i).map Cnt.Name = acc at *
    have ht2 : (s.map Cnt.Name).take (i + 1) = acc ++ [(ix s i).Name] := by rw [← List.map_take]; exact ht
    simp [QB, SB, hlt, rowAt_enc hlt, htl, i6]
    exact ⟨by omega, i + 1, by omega, by omega, weak_keep 2 (by simp) (by simp) (by simp [AV.clean, AV.clean1]) (by simp) (by simp [QB, SB, ht2])⟩
  · obtain rfl : i = s.length := by omega
    rw [List.take_length] at htl ⊢
    simp [QB, SB, hlt]
end
end Go.Proofs.YtgjljfbohpnfcaaGreat


namespace Go.Proofs.YtgjljfbohpnfcaaGreat
set_option linter.unusedVariables false
set_option maxRecDepth 100000
abbrev v0 : Val := Val.mk 0 0 0 ByteArray.empty []
abbrev e0 : Expr := Expr.mk 0 v0 ByteArray.empty false []
abbrev eA : Expr := Expr.mk 2 v0 ⟨#[97]⟩ false []
abbrev eCount : Expr := Expr.mk 24 v0 ⟨#[99, 111, 117, 110, 116]⟩ false []
abbrev eOne : Expr := Expr.mk 1 (Val.mk 2 1 0 ByteArray.empty []) ByteArray.empty false []
abbrev eSum : Expr := Expr.mk 7 v0 ByteArray.empty false [eOne, eCount]
abbrev eProp : Expr := Expr.mk 3 v0 ⟨#[107]⟩ false [eA]
abbrev cM : Clause := Clause.mk 1 false false [PathPat.mk ByteArray.empty [NodePat.mk ⟨#[97]⟩ [] [], NodePat.mk ⟨#[98]⟩ [] []] [EdgePat.mk ⟨#[101]⟩ [⟨#[84]⟩] 1 0 0 0 []]] [] e0 ByteArray.empty [] [] (-1) (-1) [] []
abbrev cAgain : Clause := Clause.mk 1 false false [PathPat.mk ByteArray.empty [NodePat.mk ByteArray.empty [] [], NodePat.mk ByteArray.empty [] []] [EdgePat.mk ⟨#[97]⟩ [] 1 0 0 0 []]] [] e0 ByteArray.empty [] [] (-1) (-1) [] []
abbrev cLate : Clause := Clause.mk 1 false false [PathPat.mk ByteArray.empty [NodePat.mk ⟨#[97]⟩ [] [PropPat.mk ⟨#[107]⟩ eProp]] []] [] e0 ByteArray.empty [] [] (-1) (-1) [] []
abbrev cRet : Clause := Clause.mk 4 false false [] [] e0 ByteArray.empty [Item.mk eA ⟨#[120]⟩, Item.mk eCount ⟨#[110]⟩] [] (-1) (-1) [] []
abbrev cSum : Clause := Clause.mk 4 false false [] [] e0 ByteArray.empty [Item.mk eSum ⟨#[110]⟩] [] 0 0 [] []
theorem y1 : scopeF (Query.mk [cM, cRet]) 1 = ([⟨⟨#[97]⟩, 1⟩, ⟨⟨#[101]⟩, 2⟩, ⟨⟨#[98]⟩, 1⟩], 0, 0) := by kernel_rfl
theorem y2 : scopeF (Query.mk [cM, cRet]) 2 = ([⟨⟨#[120]⟩, 1⟩, ⟨⟨#[110]⟩, 4⟩], 0, 0) := by kernel_rfl
theorem y3 : checkQ (Query.mk [cM, cAgain, cRet]) = ([], 1, 8) := by kernel_rfl
theorem y4 : checkQ (Query.mk [cM, cRet]) = ([⟨#[120]⟩, ⟨#[110]⟩], 0, 0) := by kernel_rfl
theorem y5 : checkQ (Query.mk [cM, cSum]) = ([], 1, 9) := by kernel_rfl
theorem y6 : checkQ (Query.mk [cLate, cRet]) = ([], 0, 6) := by kernel_rfl
theorem y7 : usesF (Expr.mk 7 v0 ByteArray.empty false [Expr.mk 2 v0 ⟨#[98]⟩ false [], eA]) = [⟨#[97]⟩, ⟨#[98]⟩] := by kernel_rfl
end Go.Proofs.YtgjljfbohpnfcaaGreat


namespace Go.Proofs.YtgjljfbohpnfcaaGreat
open Go.RowKit
set_option linter.unusedSimpArgs false
set_option linter.unusedVariables false
set_option linter.unnecessarySimpa false
set_option maxRecDepth 100000
section
variable {C : Ctx}
theorem pure0W {f : FuncId} {fn : Func} {body : Code} {rs : List ResultVar} {n : Nat} (hf : C.P.funcs[f]? = some fn) (hb : fn.body = some body) (hrs : fn.results.toList = rs) (hn : fn.ntmps = n) {res : AV} (h : AW C n 0 body ⟨[], []⟩ (postP C rs res)) : PureOK C.P C.G f (spec0 res) :=
  pure_of_AW hf hb hrs hn fun avs ob r' hp hob => by
    unfold spec0 at hp
    split at hp
    · injection hp with hp; injection hp with e1 e2; subst e1 e2
      exact ⟨Nat.zero_le _, h⟩
    · cases hp
end
def nrm1 : AV → AV
  | .slice sz f rows => .slice sz f (rows.map fun r => r.map nrmC)
  | v => v
def nrm2 : AV → AV
  | .agg cs => .agg (cs.map nrm1)
  | v => v
theorem repD_nrm1 {w : World} {X : Nat → Prop} {v : Value} {av : AV} (h : RepD w X v av) : RepD w X v (nrm1 av) := by
  unfold nrm1
  split
  · cases h with
    | slice _ _ _ a n cap val hn h1 h2 h3 hr hm hv =>
      refine .slice _ _ _ a n cap val (by simpa using hn) (by simpa using h1) h2 (by simpa using h3) (fun r hr' => ?_) (by simpa using hm) (fun i j r c hi hj => ?_)
      · obtain ⟨r0, h0, rfl⟩ := List.mem_map.1 hr'
        simpa using hr r0 h0
      · rw [List.getElem?_map, Option.map_eq_some_iff] at hi
        obtain ⟨r0, h0, rfl⟩ := hi
        rw [List.getElem?_map, Option.map_eq_some_iff] at hj
        obtain ⟨c0, h1, rfl⟩ := hj
        exact repD_nrmC (hv i j r0 c0 h0 h1)
  · exact h
theorem repD_nrm2 {w : World} {X : Nat → Prop} {v : Value} {av : AV} (h : RepD w X v av) : RepD w X v (nrm2 av) := by
  unfold nrm2
  split
  · cases h with
    | agg vs cells val hl hm hv =>
      refine .agg _ _ val (by simpa using hl) (by simpa using hm) (fun j c hc => ?_)
      rw [List.getElem?_map, Option.map_eq_some_iff] at hc
      obtain ⟨c0, h0, rfl⟩ := hc
      exact repD_nrm1 (hv j c0 h0)
  · exact h
theorem pure_nrm2 {P : Program} {G : Nat → AV} {f : FuncId} {p : List AV → Option (Prop × AV)} (h : PureOK P G f p) : PureOK P G f (fun avs => p (avs.map nrm2)) := by
  intro w X args avs ob r hX hG hsz harg hp hob
  refine h w X args (avs.map nrm2) ob r hX hG (by simpa using hsz) (fun j u hu => ?_) hp hob
  rw [List.getElem?_map, Option.map_eq_some_iff] at hu
  obtain ⟨u0, h0, rfl⟩ := hu
  obtain ⟨v, h1, h2⟩ := harg j u0 h0
  exact ⟨v, h1, repD_nrm2 h2⟩
theorem dec_lit {α : Type} [Enc α] (s : Nat) (f : Bool) (rows : List (List AV)) : (Enc.dec (.slice s f rows) : List α) = rows.map Enc.unc := rfl
def K1 : List AV := [.int .i64 2, .int .i64 0, .int .i64 0, .int .i64 0, .str ByteArray.empty, .slice 5 true [], .str ⟨#[120]⟩, .bool false, .slice 9 true []]
def K2 : List AV := [.int .i64 24, .int .i64 0, .int .i64 0, .int .i64 0, .str ByteArray.empty, .slice 5 true [], .str ⟨#[99, 111, 117, 110, 116]⟩, .bool false, .slice 9 true []]
def K3 : List AV := [.int .i64 24, .int .i64 0, .int .i64 0, .int .i64 0, .str ByteArray.empty, .slice 5 true [], .str ⟨#[115, 117, 109]⟩, .bool false, .slice 9 true [[.int .i64 24, .int .i64 0, .int .i64 0, .int .i64 0, .str ByteArray.empty, .slice 5 false [], .str ⟨#[99, 111, 117, 110, 116]⟩, .bool false, .slice 9 false [[.int .i64 2, .int .i64 0, .int .i64 0, .int .i64 0, .str ByteArray.empty, .slice 5 false [], .str ⟨#[120]⟩, .bool false, .slice 9 false []]]]]]
def K4 : List AV := [.str ByteArray.empty, .slice 1 true [], .int .i64 1, .int .i64 1, .int .i64 0, .int .i64 6, .slice 10 true []]
theorem wfV0 : WfV (.mk 0 0 0 ByteArray.empty []) := .mk _ _ _ _ _ (Nat.zero_le _) (Nat.zero_le _) (by simp)
theorem wfE0 (o : Int) (n : ByteArray) (d : Bool) (hn : n.size ≤ 20) : WfE (.mk o (.mk 0 0 0 ByteArray.empty []) n d []) := .mk _ _ _ _ _ wfV0 (by unfold maxLen; omega) (Nat.zero_le _) (by simp)
theorem wfE1 (o : Int) (n : ByteArray) (d : Bool) (k : Expr) (hn : n.size ≤ 20) (hk : WfE k) : WfE (.mk o (.mk 0 0 0 ByteArray.empty []) n d [k]) := .mk _ _ _ _ _ wfV0 (by unfold maxLen; omega) (by simp [maxLen]) (by simpa using hk)
theorem x1 : checkE (Expr.mk 24 (Val.mk 0 0 0 ByteArray.empty []) ⟨#[99, 111, 117, 110, 116]⟩ false []) = 0 := by kernel_rfl
theorem x2 : checkE (Expr.mk 24 (Val.mk 0 0 0 ByteArray.empty []) ⟨#[99, 111, 117, 110, 116]⟩ true []) = 1 := by kernel_rfl
theorem x3 : checkE (Expr.mk 24 (Val.mk 0 0 0 ByteArray.empty []) ⟨#[115, 117, 109]⟩ false [(Expr.mk 24 (Val.mk 0 0 0 ByteArray.empty []) ⟨#[99, 111, 117, 110, 116]⟩ false [(Expr.mk 2 (Val.mk 0 0 0 ByteArray.empty []) ⟨#[120]⟩ false [])])]) = 9 := by kernel_rfl
theorem x4 : checkE (Expr.mk 23 (Val.mk 0 0 0 ByteArray.empty []) ⟨#[102, 111, 111]⟩ false []) = 6 := by kernel_rfl
theorem x5 : checkE (Expr.mk 23 (Val.mk 0 0 0 ByteArray.empty []) ⟨#[105, 100]⟩ false []) = 1 := by kernel_rfl
theorem w0 : WfE (Expr.mk 24 (Val.mk 0 0 0 ByteArray.empty []) ⟨#[99, 111, 117, 110, 116]⟩ false []) := wfE0 _ _ _ (by decide)
theorem w1 : WfE (Expr.mk 24 (Val.mk 0 0 0 ByteArray.empty []) ⟨#[99, 111, 117, 110, 116]⟩ true []) := wfE0 _ _ _ (by decide)
theorem w2 : WfE (Expr.mk 24 (Val.mk 0 0 0 ByteArray.empty []) ⟨#[115, 117, 109]⟩ false [(Expr.mk 24 (Val.mk 0 0 0 ByteArray.empty []) ⟨#[99, 111, 117, 110, 116]⟩ false [(Expr.mk 2 (Val.mk 0 0 0 ByteArray.empty []) ⟨#[120]⟩ false [])])]) := wfE1 _ _ _ _ (by decide) (wfE1 _ _ _ _ (by decide) (wfE0 _ _ _ (by decide)))
theorem w3 : WfE (Expr.mk 2 (Val.mk 0 0 0 ByteArray.empty []) ⟨#[120]⟩ false []) := wfE0 _ _ _ (by decide)
theorem w4 : WfE (Expr.mk 23 (Val.mk 0 0 0 ByteArray.empty []) ⟨#[102, 111, 111]⟩ false []) := wfE0 _ _ _ (by decide)
theorem w5 : WfE (Expr.mk 23 (Val.mk 0 0 0 ByteArray.empty []) ⟨#[105, 100]⟩ false []) := wfE0 _ _ _ (by decide)
theorem w6 : WfE (Expr.mk 2 (Val.mk 0 0 0 ByteArray.empty []) ⟨#[109, 97, 116, 99, 104]⟩ false []) := wfE0 _ _ _ (by decide)
theorem w7 : WfP (PathPat.mk ByteArray.empty [(NodePat.mk ByteArray.empty [] []), (NodePat.mk ByteArray.empty [] []), (NodePat.mk ByteArray.empty [] []), (NodePat.mk ByteArray.empty [] [])] [(EdgePat.mk ByteArray.empty [] 1 1 0 6 []), (EdgePat.mk ByteArray.empty [] 1 1 0 6 []), (EdgePat.mk ByteArray.empty [] 1 0 0 0 [])]) := by
  have m0 : ∀ n, n ≤ 1000 → n ≤ maxLen := fun n h => by unfold maxLen; omega
  have m1 : (⟨#[120]⟩ : ByteArray).size ≤ maxLen := m0 _ (by decide)
  have m2 : WfE (Expr.mk 0 (Val.mk 0 0 0 ByteArray.empty []) ByteArray.empty false []) := wfE0 _ _ _ (by decide)
  simp [WfQy, WfC, WfP, WfN, WfG, WfQ, edgeN, m0, m1, m2, w0]
theorem w8 : WfP (PathPat.mk ByteArray.empty [(NodePat.mk ByteArray.empty [] []), (NodePat.mk ByteArray.empty [] [])] [(EdgePat.mk ByteArray.empty [] 1 0 0 0 [])]) := by
  have m0 : ∀ n, n ≤ 1000 → n ≤ maxLen := fun n h => by unfold maxLen; omega
  have m1 : (⟨#[120]⟩ : ByteArray).size ≤ maxLen := m0 _ (by decide)
  have m2 : WfE (Expr.mk 0 (Val.mk 0 0 0 ByteArray.empty []) ByteArray.empty false []) := wfE0 _ _ _ (by decide)
  simp [WfQy, WfC, WfP, WfN, WfG, WfQ, edgeN, m0, m1, m2, w0]
theorem w9 : WfQy (Query.mk [(Clause.mk 1 false false [PathPat.mk ByteArray.empty [NodePat.mk ⟨#[120]⟩ [] []] []] [] (Expr.mk 0 (Val.mk 0 0 0 ByteArray.empty []) ByteArray.empty false []) ByteArray.empty [] [] (-1) 0 [] [])]) := by
  have m0 : ∀ n, n ≤ 1000 → n ≤ maxLen := fun n h => by unfold maxLen; omega
  have m1 : (⟨#[120]⟩ : ByteArray).size ≤ maxLen := m0 _ (by decide)
  have m2 : WfE (Expr.mk 0 (Val.mk 0 0 0 ByteArray.empty []) ByteArray.empty false []) := wfE0 _ _ _ (by decide)
  simp [WfQy, WfC, WfP, WfN, WfG, WfQ, edgeN, m0, m1, m2, w0]
theorem w10 : WfQy (Query.mk [(Clause.mk 1 false false [PathPat.mk ByteArray.empty [NodePat.mk ⟨#[120]⟩ [] []] []] [] (Expr.mk 0 (Val.mk 0 0 0 ByteArray.empty []) ByteArray.empty false []) ByteArray.empty [] [] (-1) 0 [] []), (Clause.mk 4 false false [] [] (Expr.mk 0 (Val.mk 0 0 0 ByteArray.empty []) ByteArray.empty false []) ByteArray.empty [Item.mk (Expr.mk 24 (Val.mk 0 0 0 ByteArray.empty []) ⟨#[99, 111, 117, 110, 116]⟩ false []) ⟨#[110]⟩] [] (-1) 5 [] [])]) := by
  have m0 : ∀ n, n ≤ 1000 → n ≤ maxLen := fun n h => by unfold maxLen; omega
  have m1 : (⟨#[120]⟩ : ByteArray).size ≤ maxLen := m0 _ (by decide)
  have m2 : WfE (Expr.mk 0 (Val.mk 0 0 0 ByteArray.empty []) ByteArray.empty false []) := wfE0 _ _ _ (by decide)
  simp [WfQy, WfC, WfP, WfN, WfG, WfQ, edgeN, m0, m1, m2, w0]
theorem w11 : WfC (Clause.mk 4 false false [] [] (Expr.mk 0 (Val.mk 0 0 0 ByteArray.empty []) ByteArray.empty false []) ByteArray.empty [Item.mk (Expr.mk 24 (Val.mk 0 0 0 ByteArray.empty []) ⟨#[99, 111, 117, 110, 116]⟩ false []) ⟨#[110]⟩] [] (-1) 5 [] []) := by
  have m0 : ∀ n, n ≤ 1000 → n ≤ maxLen := fun n h => by unfold maxLen; omega
  have m1 : (⟨#[120]⟩ : ByteArray).size ≤ maxLen := m0 _ (by decide)
  have m2 : WfE (Expr.mk 0 (Val.mk 0 0 0 ByteArray.empty []) ByteArray.empty false []) := wfE0 _ _ _ (by decide)
  simp [WfQy, WfC, WfP, WfN, WfG, WfQ, edgeN, m0, m1, m2, w0]
def KE : List AV := [.str ByteArray.empty, .slice 1 true [], .int .i64 1, .int .i64 0, .int .i64 0, .int .i64 0, .slice 10 true []]
def KS : AV := .slice 7 true [[.str ByteArray.empty, .slice 1 false [], .int .i64 1, .int .i64 1, .int .i64 0, .int .i64 6, .slice 10 false []], [.str ByteArray.empty, .slice 1 false [], .int .i64 1, .int .i64 1, .int .i64 0, .int .i64 6, .slice 10 false []], [.str ByteArray.empty, .slice 1 false [], .int .i64 1, .int .i64 0, .int .i64 0, .int .i64 0, .slice 10 false []]]
def MB : Blk := ⟨64, 3, [[.str ByteArray.empty, .slice 1 true [], .slice 10 true []], [.str ByteArray.empty, .slice 1 true [], .slice 10 true []], [.str ByteArray.empty, .slice 1 true [], .slice 10 true []], [.str ByteArray.empty, .slice 1 true [], .slice 10 true []]], true, true⟩
def ZP : Blk := ⟨70, 3, [[.str ByteArray.empty, .slice 3 true [], .slice 7 true []]], true, true⟩
def PF (k : Nat) : Blk := ⟨70, 3, [[.str ByteArray.empty, .own k 4, KS]], true, false⟩
def heap5 (o l0 l6 l7 : Bool) : List Blk := if l7 then (if o then [MB, PF 0] else [PF 1, MB]) else if l0 && l6 then (if o then [MB, ZP] else [ZP, MB]) else if l0 then [MB] else if l6 then [ZP] else []
structure I5 (o : Bool) (L : Nat → Bool) (st : ASt) : Prop where
  s1 : getA st.ρ 1 = .iptr K1
  s2 : getA st.ρ 2 = .iptr K2
  s3 : getA st.ρ 3 = .iptr K3
  s4 : getA st.ρ 4 = .iptr K4
  v0 : L 0 = true → getA st.ρ 23 = .own (if o then 0 else 1) 4
  v1 : L 1 = true → getA st.ρ 24 = .agg K4
  v2 : L 2 = true → getA st.ρ 25 = .agg K4
  v3 : L 3 = true → getA st.ρ 26 = .agg KE
  v4 : L 4 = true → getA st.ρ 27 = KS
  v5 : L 5 = true → getA st.ρ 28 = .agg [.str ByteArray.empty, .own (if o then 0 else 1) 4, KS]
  v6 : L 6 = true → getA st.ρ 5 = .ptr (if o then 1 else 0) 1 3 0 0
  c0 : L 0 = true → L 6 = false → o = true
  c5 : L 5 = true → L 0 = true
  c6 : L 6 = true → L 0 = false → o = false
  c7 : L 7 = true → L 0 = true ∧ L 6 = true
  hp : st.H = heap5 o (L 0) (L 6) (L 7)
section
variable {m : Int}
theorem wk0 {N h0 : Nat} {C : Ctx} {ρ ρ' : List (Nat × AV)} {H : List Blk} (h : ∀ p ∈ ρ', getA ρ p.1 = p.2) (hm : h0 = 0) (hρ : ∀ p ∈ ρ', p.2.clean 0 = true) : Weak C N h0 ⟨ρ, H⟩ ⟨ρ', []⟩ := by
  subst hm
  exact weak_keep 0 h (by simp) hρ (by simp) (by simp)
end
end Go.Proofs.YtgjljfbohpnfcaaGreat


namespace Go.Proofs.YtgjljfbohpnfcaaGreat
open Go.RowKit
set_option linter.unusedSimpArgs false
set_option linter.unusedVariables false
set_option maxRecDepth 100000
def tE (op k n : Int) (name : ByteArray) (kids : List (List AV)) : List AV := [.int .i64 op, .int .i64 k, .int .i64 n, .int .i64 0, .str ByteArray.empty, .slice 5 true [], .str name, .bool false, .slice 9 true kids]
def tC (k s l : Int) (items : List (List AV)) : List AV := [.int .i64 k, .bool false, .bool false, .slice 3 true [], .slice 9 true []] ++ tE 0 0 0 ByteArray.empty [] ++ [.str ByteArray.empty, .slice 10 true items, .slice 10 true [], .int .i64 s, .int .i64 l, .slice 13 true [], .slice 1 true []]
def Mq1 : AV := .iptr (tE 2 0 0 ⟨#[97]⟩ [])
def Mq2 : AV := .iptr (tE 24 0 0 ⟨#[99, 111, 117, 110, 116]⟩ [])
def Mq3 : AV := .iptr (tE 1 2 1 ByteArray.empty [])
def Mq4 : AV := .iptr (Enc.cells cM)
def Mq5 : AV := .iptr (Enc.cells cAgain)
def Mq6 : AV := .iptr (Enc.cells cLate)
def Mq7 : AV := .iptr (tC 4 (-1) (-1) [Enc.cells (Item.mk eA ⟨#[120]⟩), Enc.cells (Item.mk eCount ⟨#[110]⟩)])
def Mq8 : AV := .iptr (tC 4 0 0 [Enc.cells (Item.mk eSum ⟨#[110]⟩)])
theorem m0 {n : Nat} (h : n ≤ 1000) : n ≤ maxLen := by unfold maxLen; omega
theorem we0 : WfE e0 := wfE0 _ _ _ (by decide)
theorem weA : WfE eA := wfE0 _ _ _ (by decide)
theorem weCount : WfE eCount := wfE0 _ _ _ (by decide)
theorem weOne : WfE eOne := .mk _ _ _ _ _ (.mk _ _ _ _ _ (Nat.zero_le _) (Nat.zero_le _) (by simp)) (m0 (by decide)) (Nat.zero_le _) (by simp)
theorem weSum : WfE eSum := .mk _ _ _ _ _ wfV0 (m0 (by decide)) (m0 (by decide)) (by simpa using ⟨weOne, weCount⟩)
theorem weProp : WfE eProp := wfE1 _ _ _ _ (by decide) weA
theorem weUse : WfE (Expr.mk 7 v0 ByteArray.empty false [Expr.mk 2 v0 ⟨#[98]⟩ false [], eA]) := .mk _ _ _ _ _ wfV0 (m0 (by decide)) (m0 (by decide)) (by simpa using ⟨wfE0 _ _ _ (by decide), weA⟩)
theorem gq1 : GoodQ (Query.mk [cM, cRet]) := by
  have z1 : (1 : Nat) ≤ maxLen := m0 (by decide)
  have z2 : (2 : Nat) ≤ maxLen := m0 (by decide)
  have z3 : (3 : Nat) ≤ maxLen := m0 (by decide)
  have z4 : ByteArray.empty.size ≤ maxLen := m0 (by decide)
  have z5 : ∀ c : UInt8, (⟨#[c]⟩ : ByteArray).size ≤ maxLen := fun c => m0 (show 1 ≤ 1000 by decide)
  simp [GoodQ, WfQy, WfC, WfP, WfN, WfG, WfQ, edgeN, GoodC, GoodP, GoodPr, GoodEs, GoodE, namesE, namesL, we0, weA, weCount, weOne, weSum, weProp, z1, z2, z3, z4, z5]
theorem gq3 : GoodQ (Query.mk [cM, cAgain, cRet]) := by
  have z1 : (1 : Nat) ≤ maxLen := m0 (by decide)
  have z2 : (2 : Nat) ≤ maxLen := m0 (by decide)
  have z3 : (3 : Nat) ≤ maxLen := m0 (by decide)
  have z4 : ByteArray.empty.size ≤ maxLen := m0 (by decide)
  have z5 : ∀ c : UInt8, (⟨#[c]⟩ : ByteArray).size ≤ maxLen := fun c => m0 (show 1 ≤ 1000 by decide)
  simp [GoodQ, WfQy, WfC, WfP, WfN, WfG, WfQ, edgeN, GoodC, GoodP, GoodPr, GoodEs, GoodE, namesE, namesL, we0, weA, weCount, weOne, weSum, weProp, z1, z2, z3, z4, z5]
theorem gq5 : GoodQ (Query.mk [cM, cSum]) := by
  have z1 : (1 : Nat) ≤ maxLen := m0 (by decide)
  have z2 : (2 : Nat) ≤ maxLen := m0 (by decide)
  have z3 : (3 : Nat) ≤ maxLen := m0 (by decide)
  have z4 : ByteArray.empty.size ≤ maxLen := m0 (by decide)
  have z5 : ∀ c : UInt8, (⟨#[c]⟩ : ByteArray).size ≤ maxLen := fun c => m0 (show 1 ≤ 1000 by decide)
  simp [GoodQ, WfQy, WfC, WfP, WfN, WfG, WfQ, edgeN, GoodC, GoodP, GoodPr, GoodEs, GoodE, namesE, namesL, we0, weA, weCount, weOne, weSum, weProp, z1, z2, z3, z4, z5]
theorem gq6 : GoodQ (Query.mk [cLate, cRet]) := by
  have z1 : (1 : Nat) ≤ maxLen := m0 (by decide)
  have z2 : (2 : Nat) ≤ maxLen := m0 (by decide)
  have z3 : (3 : Nat) ≤ maxLen := m0 (by decide)
  have z4 : ByteArray.empty.size ≤ maxLen := m0 (by decide)
  have z5 : ∀ c : UInt8, (⟨#[c]⟩ : ByteArray).size ≤ maxLen := fun c => m0 (show 1 ≤ 1000 by decide)
  simp [GoodQ, WfQy, WfC, WfP, WfN, WfG, WfQ, edgeN, GoodC, GoodP, GoodPr, GoodEs, GoodE, namesE, namesL, we0, weA, weCount, weOne, weSum, weProp, z1, z2, z3, z4, z5]
section
variable {m : Int}
def sMatch : List AV → Option (Prop × AV) := spec1 (fun (_ : PathPat) => True) (fun p => Enc.enc (Clause.mk 1 false false [p] [] e0 ByteArray.empty [] [] (-1) (-1) [] []))
theorem matchP : PureOK Tryz.prog (G m) 24 sMatch := by
  refine pure1 (C := C0 m) (sigC0 m) (mixC0 m) Tryz.func24 rfl rfl rfl (by kernel_rfl) (by decide) (fun p _ => ?_)
  simp
def sMatchN : List AV → Option (Prop × AV) := fun avs => sMatch (avs.map nrm2)
theorem matchN : PureOK Tryz.prog (G m) 24 sMatchN := pure_nrm2 matchP
noncomputable def CLb (m : Int) : Ctx := mkC Tryz.prog (G m) [(24, .frz sMatchN), (11, .pure sScope), (14, .pure sCheckQ), (18, .pure sUses), (13, .pure sSame), (16, .pure sTexts)]
@[simp] theorem CLb_P (m : Int) : (CLb m).P = Tryz.prog := rfl
@[simp] theorem CLb_G (m : Int) : (CLb m).G = (G m) := rfl
@[simp] theorem CLb_1 (m : Int) : (CLb m).S 24 = .frz sMatchN := rfl
@[simp] theorem CLb_2 (m : Int) : (CLb m).S 11 = .pure sScope := rfl
@[simp] theorem CLb_3 (m : Int) : (CLb m).S 14 = .pure sCheckQ := rfl
@[simp] theorem CLb_4 (m : Int) : (CLb m).S 18 = .pure sUses := rfl
@[simp] theorem CLb_5 (m : Int) : (CLb m).S 13 = .pure sSame := rfl
@[simp] theorem CLb_6 (m : Int) : (CLb m).S 16 = .pure sTexts := rfl
theorem mixCLb (m : Int) : (CLb m).P.follows .mixedOrders = true := mixed
theorem sigCLb (m : Int) : SigOK (CLb m) := sigOK_cons (entryFrz (matchN) Tryz.func24 rfl (by decide)) (sigOK_cons (entryPure (scopeP) Tryz.func11 rfl (by decide)) (sigOK_cons (entryPure (checkQP) Tryz.func14 rfl (by decide)) (sigOK_cons (entryPure (usesP) Tryz.func18 rfl (by decide)) (sigOK_cons (entryPure (sameR) Tryz.func13 rfl (by decide)) (sigOK_cons (entryPure (textsR) Tryz.func16 rfl (by decide)) (sigOK_nil _ _))))))
set_option maxHeartbeats 16000000 in
theorem livesB : PureOK Tryz.prog (G m) 10 (spec0 (.bool true)) := by
  refine pure0W (C := CLb m) Tryz.func10 rfl rfl rfl ?_
  refine AW_seq (avc_sound (sigCLb m) (mixCLb m) _ (by kernel_rfl) ?_)
  simp
  refine AW_seq (avc_sound (sigCLb m) (mixCLb m) _ (by kernel_rfl) ?_)
  simp [tE, tC, sMatch, sMatchN, nrm1, nrm2, dec_lit]
  refine AW.weak ((weak_view 1).trans (wk0 (ρ' := [(1, Mq1)]) (by simp [Mq1, tE, tC]) rfl (by simp [Mq1, tE, tC, AV.clean, AV.clean1]))) ?_
  refine AW_seq (avc_sound (sigCLb m) (mixCLb m) _ (by kernel_rfl) ?_)
  simp [Mq1, tE, tC, sMatch, sMatchN, nrm1, nrm2, dec_lit]
  refine AW.weak ((weak_view 2).trans (wk0 (ρ' := [(1, Mq1), (2, Mq2)]) (by simp [Mq1, Mq2, tE, tC]) rfl (by simp [Mq1, Mq2, tE, tC, AV.clean, AV.clean1]))) ?_
  refine AW_seq (avc_sound (sigCLb m) (mixCLb m) _ (by kernel_rfl) ?_)
  simp [Mq1, Mq2, tE, tC, sMatch, sMatchN, nrm1, nrm2, dec_lit]
  refine AW.weak ((weak_view 3).trans (wk0 (ρ' := [(1, Mq1), (2, Mq2), (3, Mq3)]) (by simp [Mq1, Mq2, Mq3, tE, tC]) rfl (by simp [Mq1, Mq2, Mq3, tE, tC, AV.clean, AV.clean1]))) ?_
  refine AW_seq (avc_sound (sigCLb m) (mixCLb m) _ (by kernel_rfl) ?_)
  simp [Mq1, Mq2, Mq3, tE, tC, sMatch, sMatchN, nrm1, nrm2, dec_lit]
  refine AW.weak ((weak_view 4).trans (wk0 (ρ' := [(1, Mq1), (2, Mq2), (3, Mq3), (4, Mq4)]) (by simp [Mq1, Mq2, Mq3, Mq4, tE, tC]) rfl (by simp [Mq1, Mq2, Mq3, Mq4, tE, tC, AV.clean, AV.clean1]))) ?_
  refine AW_seq (avc_sound (sigCLb m) (mixCLb m) _ (by kernel_rfl) ?_)
  simp [Mq1, Mq2, Mq3, Mq4, tE, tC, sMatch, sMatchN, nrm1, nrm2, dec_lit]
  refine AW.weak ((weak_view 5).trans (wk0 (ρ' := [(1, Mq1), (2, Mq2), (3, Mq3), (4, Mq4), (5, Mq5)]) (by simp [Mq1, Mq2, Mq3, Mq4, Mq5, tE, tC]) rfl (by simp [Mq1, Mq2, Mq3, Mq4, Mq5, tE, tC, AV.clean, AV.clean1]))) ?_
  refine AW_seq (avc_sound (sigCLb m) (mixCLb m) _ (by kernel_rfl) ?_)
  simp [Mq1, Mq2, Mq3, Mq4, Mq5, tE, tC, sMatch, sMatchN, nrm1, nrm2, dec_lit]
  refine AW.weak ((weak_view 6).trans (wk0 (ρ' := [(1, Mq1), (2, Mq2), (3, Mq3), (4, Mq4), (5, Mq5), (6, Mq6)]) (by simp [Mq1, Mq2, Mq3, Mq4, Mq5, Mq6, tE, tC]) rfl (by simp [Mq1, Mq2, Mq3, Mq4, Mq5, Mq6, tE, tC, AV.clean, AV.clean1]))) ?_
  refine AW_seq (avc_sound (sigCLb m) (mixCLb m) _ (by kernel_rfl) ?_)
  simp [Mq1, Mq2, Mq3, Mq4, Mq5, Mq6, tE, tC, sMatch, sMatchN, nrm1, nrm2, dec_lit]
  refine AW.weak ((weak_view 7).trans (wk0 (ρ' := [(1, Mq1), (2, Mq2), (3, Mq3), (4, Mq4), (5, Mq5), (6, Mq6), (7, Mq7)]) (by simp [Mq1, Mq2, Mq3, Mq4, Mq5, Mq6, Mq7, tE, tC]) rfl (by simp [Mq1, Mq2, Mq3, Mq4, Mq5, Mq6, Mq7, tE, tC, AV.clean, AV.clean1]))) ?_
  refine AW_seq (avc_sound (sigCLb m) (mixCLb m) _ (by kernel_rfl) ?_)
  simp [Mq1, Mq2, Mq3, Mq4, Mq5, Mq6, Mq7, tE, tC, sMatch, sMatchN, nrm1, nrm2, dec_lit]
  refine AW.weak ((weak_view 8).trans (wk0 (ρ' := [(1, Mq1), (2, Mq2), (3, Mq3), (4, Mq4), (5, Mq5), (6, Mq6), (7, Mq7), (8, Mq8)]) (by simp [Mq1, Mq2, Mq3, Mq4, Mq5, Mq6, Mq7, Mq8, tE, tC]) rfl (by simp [Mq1, Mq2, Mq3, Mq4, Mq5, Mq6, Mq7, Mq8, tE, tC, AV.clean, AV.clean1]))) ?_
  refine AW_seq (avc_sound (sigCLb m) (mixCLb m) _ (by kernel_rfl) ?_)
  simp [Mq4, Mq7, tE, tC, dec_lit, sScope, triA, y1, gq1]
  refine AW.weak (wk0 (ρ' := [(1, Mq1), (2, Mq2), (3, Mq3), (4, Mq4), (5, Mq5), (6, Mq6), (7, Mq7), (8, Mq8), (9, Enc.enc [Cnt.mk ⟨#[97]⟩ 1, Cnt.mk ⟨#[101]⟩ 2, Cnt.mk ⟨#[98]⟩ 1]), (11, .int .i64 0)]) (by simp [Mq1, Mq2, Mq3, Mq4, Mq5, Mq6, Mq7, Mq8, tE, tC]) rfl (by simp [Mq1, Mq2, Mq3, Mq4, Mq5, Mq6, Mq7, Mq8, tE, tC, AV.clean, AV.clean1])) ?_
  refine AW_seq (avc_sound (sigCLb m) (mixCLb m) _ (by kernel_rfl) ?_)
  simp [Mq4, Mq7, tE, tC, dec_lit, sScope, triA, y2, gq1]
  refine AW.weak (wk0 (ρ' := [(1, Mq1), (2, Mq2), (3, Mq3), (4, Mq4), (5, Mq5), (6, Mq6), (7, Mq7), (8, Mq8), (9, Enc.enc [Cnt.mk ⟨#[97]⟩ 1, Cnt.mk ⟨#[101]⟩ 2, Cnt.mk ⟨#[98]⟩ 1]), (11, .int .i64 0), (12, Enc.enc [Cnt.mk ⟨#[120]⟩ 1, Cnt.mk ⟨#[110]⟩ 4]), (14, .int .i64 0)]) (by simp [Mq1, Mq2, Mq3, Mq4, Mq5, Mq6, Mq7, Mq8, tE, tC]) rfl (by simp [Mq1, Mq2, Mq3, Mq4, Mq5, Mq6, Mq7, Mq8, tE, tC, AV.clean, AV.clean1])) ?_
  refine AW_seq (avc_sound (sigCLb m) (mixCLb m) _ (by kernel_rfl) ?_)
  simp [Mq4, Mq5, Mq7, tE, tC, dec_lit, sCheckQ, triS, y3, gq3]
  refine AW.weak (wk0 (ρ' := [(1, Mq1), (2, Mq2), (3, Mq3), (4, Mq4), (5, Mq5), (6, Mq6), (7, Mq7), (8, Mq8), (9, Enc.enc [Cnt.mk ⟨#[97]⟩ 1, Cnt.mk ⟨#[101]⟩ 2, Cnt.mk ⟨#[98]⟩ 1]), (11, .int .i64 0), (12, Enc.enc [Cnt.mk ⟨#[120]⟩ 1, Cnt.mk ⟨#[110]⟩ 4]), (14, .int .i64 0), (16, .int .i64 1), (17, .int .i64 8)]) (by simp [Mq1, Mq2, Mq3, Mq4, Mq5, Mq6, Mq7, Mq8, tE, tC]) rfl (by simp [Mq1, Mq2, Mq3, Mq4, Mq5, Mq6, Mq7, Mq8, tE, tC, AV.clean, AV.clean1])) ?_
  refine AW_seq (avc_sound (sigCLb m) (mixCLb m) _ (by kernel_rfl) ?_)
  simp [Mq4, Mq7, tE, tC, dec_lit, sCheckQ, triS, y4, gq1]
  refine AW.weak (wk0 (ρ' := [(1, Mq1), (2, Mq2), (3, Mq3), (4, Mq4), (5, Mq5), (6, Mq6), (7, Mq7), (8, Mq8), (9, Enc.enc [Cnt.mk ⟨#[97]⟩ 1, Cnt.mk ⟨#[101]⟩ 2, Cnt.mk ⟨#[98]⟩ 1]), (11, .int .i64 0), (12, Enc.enc [Cnt.mk ⟨#[120]⟩ 1, Cnt.mk ⟨#[110]⟩ 4]), (14, .int .i64 0), (16, .int .i64 1), (17, .int .i64 8), (18, Enc.enc [(⟨#[120]⟩ : ByteArray), ⟨#[110]⟩]), (20, .int .i64 0)]) (by simp [Mq1, Mq2, Mq3, Mq4, Mq5, Mq6, Mq7, Mq8, tE, tC]) rfl (by simp [Mq1, Mq2, Mq3, Mq4, Mq5, Mq6, Mq7, Mq8, tE, tC, AV.clean, AV.clean1])) ?_
  refine AW_seq (avc_sound (sigCLb m) (mixCLb m) _ (by kernel_rfl) ?_)
  simp [Mq4, Mq8, tE, tC, dec_lit, sCheckQ, triS, y5, gq5]
  refine AW.weak (wk0 (ρ' := [(1, Mq1), (2, Mq2), (3, Mq3), (4, Mq4), (5, Mq5), (6, Mq6), (7, Mq7), (8, Mq8), (9, Enc.enc [Cnt.mk ⟨#[97]⟩ 1, Cnt.mk ⟨#[101]⟩ 2, Cnt.mk ⟨#[98]⟩ 1]), (11, .int .i64 0), (12, Enc.enc [Cnt.mk ⟨#[120]⟩ 1, Cnt.mk ⟨#[110]⟩ 4]), (14, .int .i64 0), (16, .int .i64 1), (17, .int .i64 8), (18, Enc.enc [(⟨#[120]⟩ : ByteArray), ⟨#[110]⟩]), (20, .int .i64 0), (22, .int .i64 1), (23, .int .i64 9)]) (by simp [Mq1, Mq2, Mq3, Mq4, Mq5, Mq6, Mq7, Mq8, tE, tC]) rfl (by simp [Mq1, Mq2, Mq3, Mq4, Mq5, Mq6, Mq7, Mq8, tE, tC, AV.clean, AV.clean1])) ?_
  refine AW_seq (avc_sound (sigCLb m) (mixCLb m) _ (by kernel_rfl) ?_)
  simp [Mq6, Mq7, tE, tC, dec_lit, sCheckQ, triS, y6, gq6]
  refine AW.weak (wk0 (ρ' := [(1, Mq1), (2, Mq2), (3, Mq3), (4, Mq4), (5, Mq5), (6, Mq6), (7, Mq7), (8, Mq8), (9, Enc.enc [Cnt.mk ⟨#[97]⟩ 1, Cnt.mk ⟨#[101]⟩ 2, Cnt.mk ⟨#[98]⟩ 1]), (11, .int .i64 0), (12, Enc.enc [Cnt.mk ⟨#[120]⟩ 1, Cnt.mk ⟨#[110]⟩ 4]), (14, .int .i64 0), (16, .int .i64 1), (17, .int .i64 8), (18, Enc.enc [(⟨#[120]⟩ : ByteArray), ⟨#[110]⟩]), (20, .int .i64 0), (22, .int .i64 1), (23, .int .i64 9), (25, .int .i64 0), (26, .int .i64 6)]) (by simp [Mq1, Mq2, Mq3, Mq4, Mq5, Mq6, Mq7, Mq8, tE, tC]) rfl (by simp [Mq1, Mq2, Mq3, Mq4, Mq5, Mq6, Mq7, Mq8, tE, tC, AV.clean, AV.clean1])) ?_
  refine avc_sound (sigCLb m) (mixCLb m) _ (by kernel_rfl) ?_
  simp [Mq1, tE, dec_lit, sSame, sTexts, sUses, y7, weUse, namesE, namesL]
end
end Go.Proofs.YtgjljfbohpnfcaaGreat


namespace Go.Proofs.YtgjljfbohpnfcaaGreat
open Go.RowKit
set_option linter.unusedSimpArgs false
set_option linter.unusedVariables false
set_option maxRecDepth 100000
section
variable {m : Int}
def sLivesB : List AV → Option (Prop × AV) := spec0 (.bool true)
def sSizeB : List AV → Option (Prop × AV) := spec1 (fun (e : Expr) => WfE e) (fun e => .int .i64 (sizeE e))
noncomputable def CLu (m : Int) : Ctx := mkC Tryz.prog (G m) [(17, .pure sSizeB), (10, .pure sLivesB), (18, .pure sUses), (19, .pure sUsesR), (16, .pure sTexts), (20, .pure sUnion)]
@[simp] theorem CLu_P (m : Int) : (CLu m).P = Tryz.prog := rfl
@[simp] theorem CLu_G (m : Int) : (CLu m).G = (G m) := rfl
@[simp] theorem CLu_1 (m : Int) : (CLu m).S 17 = .pure sSizeB := rfl
@[simp] theorem CLu_2 (m : Int) : (CLu m).S 10 = .pure sLivesB := rfl
@[simp] theorem CLu_3 (m : Int) : (CLu m).S 18 = .pure sUses := rfl
@[simp] theorem CLu_4 (m : Int) : (CLu m).S 19 = .pure sUsesR := rfl
@[simp] theorem CLu_5 (m : Int) : (CLu m).S 16 = .pure sTexts := rfl
@[simp] theorem CLu_6 (m : Int) : (CLu m).S 20 = .pure sUnion := rfl
end
end Go.Proofs.YtgjljfbohpnfcaaGreat


namespace Go.Proofs.YtgjljfbohpnfcaaGreat
set_option linter.unusedVariables false
set_option linter.unusedSimpArgs false
def Once (l : List Cnt) : Prop := l.Pairwise (fun a b => a.Name ≠ b.Name) ∧ ∀ c ∈ l, 1 ≤ c.N ∧ c.N ≤ 4
theorem once_nil : Once [] := ⟨List.Pairwise.nil, fun c h => by cases h⟩
theorem kindF_mem {n : ByteArray} : ∀ {l : List Cnt}, kindF l n ≠ 0 → ∃ c ∈ l, c.Name = n ∧ kindF l n = c.N
  | [], h => absurd rfl h
  | a :: r, h => by
    rw [kindF] at h ⊢
    split
    · rename_i e; exact ⟨a, by simp, e, rfl⟩
    · rename_i e
      rw [if_neg e] at h
      obtain ⟨c, h1, h2, h3⟩ := kindF_mem h
      exact ⟨c, by simp [h1], h2, h3⟩
theorem kindF_none {n : ByteArray} : ∀ {l : List Cnt}, Once l → kindF l n = 0 → ∀ c ∈ l, c.Name ≠ n
  | [], _, _, c, hc => by cases hc
  | a :: r, ho, h, c, hc => by
    rw [kindF] at h
    have h4 := ho.2 a (by simp)
    split at h
    · omega
    · rename_i e
      rcases List.mem_cons.1 hc with rfl | hc
      · exact e
      · exact kindF_none ⟨(List.pairwise_cons.1 ho.1).2, fun x hx => ho.2 x (by simp [hx])⟩ h c hc
theorem Once.snoc {l : List Cnt} (h : Once l) {n : ByteArray} {k : Int} (h0 : kindF l n = 0) (h1 : 1 ≤ k) (h2 : k ≤ 4) : Once (l ++ [⟨n, k⟩]) := by
  refine ⟨List.pairwise_append.2 ⟨h.1, List.pairwise_singleton _ _, fun a ha b hb => ?_⟩, fun c hc => ?_⟩
  · have : b = ⟨n, k⟩ := by simpa using hb
    subst this
    exact kindF_none h h0 a ha
  · rcases List.mem_append.1 hc with hc | hc
    · exact h.2 c hc
    · have : c = ⟨n, k⟩ := by simpa using hc
      subst this
      exact ⟨h1, h2⟩
def InvB (b : Bn) : Prop := b.e = 0 → Once b.now ∧ Once b.old
theorem fail_e {b : Bn} {x : Int} (h : (b.fail x).e = 0) : b.e = 0 ∧ x = 0 := by
  unfold Bn.fail at h
  split at h
  · rename_i h0; exact ⟨h0, h⟩
  · rename_i h0; exact absurd h h0
theorem InvB.fail {b : Bn} (h : InvB b) (x : Int) : InvB (b.fail x) := fun q => by rw [Bn.fail_now, Bn.fail_old]; exact h (fail_e q).1
theorem InvB.intro {b : Bn} (h : InvB b) {n : ByteArray} {k : Int} (h0 : b.e = 0 → kindF b.now n = 0) (h1 : b.e = 0 → 1 ≤ k ∧ k ≤ 4) : InvB (b.intro n k) := by
  unfold Bn.intro
  split
  · exact h.fail 4
  · intro q
    obtain ⟨a, c⟩ := h q
    exact ⟨a.snoc (h0 q) (h1 q).1 (h1 q).2, c⟩
theorem InvB.props : ∀ {l : List PropPat} {b : Bn}, InvB b → InvB (b.props l)
  | [], _, h => h
  | a :: r, b, h => InvB.props (l := r) (h.fail _)
theorem InvB.chks : ∀ {l : List Expr} {b : Bn}, InvB b → InvB (b.chks l)
  | [], _, h => h
  | a :: r, b, h => InvB.chks (l := r) (h.fail _)
theorem InvB.sorts : ∀ {l : List SortK} {b : Bn}, InvB b → InvB (b.sorts l)
  | [], _, h => h
  | a :: r, b, h => InvB.sorts (l := r) (h.fail _)
theorem InvB.nodeK {b : Bn} (h : InvB b) (n : NodePat) (mt : Bool) : InvB (b.nodeK n mt) := by
  unfold Bn.nodeK
  split
  · exact h
  split
  · rename_i q; exact h.intro (fun _ => q) fun _ => by omega
  repeat' split
  all_goals first | exact h | exact h.fail _
theorem InvB.edgeK {b : Bn} (h : InvB b) (n : EdgePat) (mt : Bool) : InvB (b.edgeK n mt) := by
  unfold Bn.edgeK
  split
  · exact h
  split
  · rename_i q
    split
    · exact h.intro (fun _ => q) fun _ => by omega
    · exact h.intro (fun _ => q) fun _ => by omega
  repeat' split
  all_goals first | exact h | exact h.fail _
theorem InvB.walk {b : Bn} (h : InvB b) (p : PathPat) (mt : Bool) : ∀ k, InvB (b.walk p mt k)
  | 0 => h
  | k + 1 => by
    have h1 : InvB ((b.walk p mt k).node (ix p.nodes k) mt) := ((h.walk p mt k).nodeK _ _).props
    rw [Bn.walk]
    split
    · exact (h1.edgeK _ _).props
    · exact h1
theorem InvB.pathV {b : Bn} (h : InvB b) (v : ByteArray) (k : Int) : InvB (b.pathV v k) := by
  unfold Bn.pathV
  split
  · exact h
  split
  · exact h.fail _
  split
  · exact h.fail _
  · rename_i q; exact h.intro (fun _ => by simpa using q) fun _ => by omega
theorem InvB.pathL {k : Int} : ∀ {l : List PathPat} {b : Bn}, InvB b → InvB (b.pathL l k)
  | [], _, h => h
  | a :: r, b, h => InvB.pathL (l := r) ((h.walk a _ _).pathV _ _)
theorem InvB.element {b : Bn} (h : InvB b) (n : ByteArray) (k : Bool) : InvB (b.element n k) := by
  unfold Bn.element
  repeat' split
  all_goals first | exact h | exact h.fail _
theorem InvB.setL : ∀ {l : List SetI} {b : Bn}, InvB b → InvB (b.setL l)
  | [], _, h => h
  | a :: r, b, h => InvB.setL (l := r) ((h.element _ _).fail _)
theorem InvB.nameL : ∀ {l : List ByteArray} {b : Bn}, InvB b → InvB (b.nameL l)
  | [], _, h => h
  | a :: r, b, h => InvB.nameL (l := r) (h.element _ _)
theorem InvB.item {b : Bn} (h : InvB b) (x : Item) : InvB (b.item x) := by
  unfold Bn.item
  dsimp only
  have h1 := h.fail (checkX b.old x.e true)
  have hk : (b.fail (checkX b.old x.e true)).e = 0 → x.e.op = 2 → 1 ≤ kindF (b.fail (checkX b.old x.e true)).old x.e.name ∧ kindF (b.fail (checkX b.old x.e true)).old x.e.name ≤ 4 := fun q ho => by
    rw [Bn.fail_old]
    obtain ⟨q1, q2⟩ := fail_e q
    obtain ⟨c, c1, c2, c3⟩ := kindF_mem (check_var q2 ho)
    rw [c3]
    exact (h q1).2.2 c c1
  split
  · refine (h1.fail 7).intro (fun q => absurd (fail_e q).2 (by decide)) (fun q => absurd (fail_e q).2 (by decide))
  · rename_i q
    refine h1.intro (fun _ => by simpa using q) fun q => ?_
    split
    · rename_i ho; exact hk q ho
    · omega
theorem InvB.itemL : ∀ {l : List Item} {b : Bn}, InvB b → InvB (b.itemL l)
  | [], _, h => h
  | a :: r, b, h => InvB.itemL (l := r) (h.item a)
theorem InvB.unwind {b : Bn} (h : InvB b) (c : Clause) : InvB (b.unwind c) := by
  unfold Bn.unwind
  dsimp only
  have h1 := h.fail (checkX b.now c.e false)
  split
  · exact (h1.fail 7).intro (fun q => absurd (fail_e q).2 (by decide)) fun _ => by omega
  · rename_i q; exact h1.intro (fun _ => by simpa using q) fun _ => by omega
theorem InvB.clause {b : Bn} (h : InvB b) (c : Clause) : InvB (b.clause c) := by
  have h1 : InvB ({ b with old := b.now } : Bn) := fun q => ⟨(h q).1, (h q).1⟩
  have h2 : InvB ({ b with old := b.now, now := [] } : Bn) := fun q => ⟨once_nil, (h q).1⟩
  unfold Bn.clause
  repeat' split
  · exact (h1.pathL).chks
  · exact h1.unwind c
  · exact ((h2.itemL).sorts).chks
  · exact h1.setL
  · exact h1.nameL
  · exact h1
end Go.Proofs.YtgjljfbohpnfcaaGreat


namespace Go.Proofs.YtgjljfbohpnfcaaGreat
open Go.RowKit
set_option linter.unusedSimpArgs false
set_option linter.unusedVariables false
set_option maxRecDepth 100000
def exprsL (l : List NodePat) : List Expr := l.flatMap fun x => x.props.map (·.e)
def nsum (l : List NodePat) : Nat := (l.map fun x => x.props.length).sum
def esum (l : List EdgePat) : Nat := (l.map fun x => x.props.length).sum
theorem exprsL_len : ∀ (ns : List NodePat) (es : List EdgePat), (exprsL (partsL ns es)).length ≤ nsum ns + esum es
  | [], es => by simp [partsL, exprsL]
  | n :: ns, [] => by
    have := exprsL_len ns []
    simp only [partsL, exprsL, List.flatMap_cons, List.length_append, List.length_map, nsum, esum, List.map_cons, List.sum_cons, List.map_nil, List.sum_nil] at this ⊢
    omega
  | n :: ns, e :: es => by
    have := exprsL_len ns es
    simp only [partsL, exprsL, List.flatMap_cons, List.length_append, List.length_map, nsum, esum, List.map_cons, List.sum_cons, edgeN] at this ⊢
    omega
theorem nsum_take : ∀ (l : List NodePat) (i : Nat), i < l.length → nsum (l.take i) + (ix l i).props.length ≤ nsum l
  | n :: l, 0, _ => by simp [nsum, ix]
  | n :: l, i + 1, h => by
    have := nsum_take l i (by simpa using h)
    have e : ix (n :: l) (i + 1) = ix l i := rfl
    rw [e]
    simp only [List.take_succ_cons, nsum, List.map_cons, List.sum_cons] at this ⊢
    omega
theorem exprs_at (ns : List NodePat) (es : List EdgePat) (i : Nat) (h : i < ns.length) : exprsL (partsL (ns.take (i + 1)) es) = exprsL (partsL (ns.take i) es) ++ ((ix ns i).props.map (·.e) ++ if i < es.length then (ix es i).props.map (·.e) else []) := by
  rw [partsL_take ns es i h]
  unfold exprsL
  rw [List.flatMap_append, List.flatMap_cons]
  split <;> simp [edgeN]
theorem exprs_bound (ns : List NodePat) (es : List EdgePat) (i : Nat) (h : i < ns.length) : (exprsL (partsL (ns.take i) es)).length + (ix ns i).props.length + (if i < es.length then (ix es i).props.length else 0) ≤ nsum ns + esum es := by
  have h1 := exprsL_len (ns.take (i + 1)) es
  rw [exprs_at ns es i h] at h1
  have h2 : nsum (ns.take (i + 1)) ≤ nsum ns := by
    rcases Nat.lt_or_ge (i + 1) ns.length with h3 | h3
    · have := nsum_take ns (i + 1) h3; omega
    · rw [List.take_of_length_le h3]; exact Nat.le_refl _
  simp only [List.length_append, List.length_map] at h1
  split at h1 <;> rename_i h3
  · rw [if_pos h3]
    simp only [List.length_map] at h1
    omega
  · rw [if_neg h3]
    simp only [List.length_nil] at h1
    omega
theorem take_succ' {α : Type} [Inhabited α] {l : List α} {k : Nat} (h : k < l.length) : l.take (k + 1) = l.take k ++ [ix l k] := by
  rw [List.take_add_one, List.getElem?_eq_getElem h, ix_lt h]
  rfl
theorem ix_map_e {l : List PropPat} {k : Nat} (h : k < l.length) : ix (l.map (·.e)) k = (ix l k).e := by
  rw [ix_lt (by simpa using h), ix_lt h]
  simp
def WfPS (p : PathPat) : Prop := WfP p ∧ nsum p.nodes + esum p.edges ≤ 1048576
def OX (l : List Expr) : Blk := ⟨42, 9, encRows l, true, true⟩
section
variable {m : Int}
def sProps : List AV → Option (Prop × AV) := spec1 (fun (p : PathPat) => WfPS p) (fun p => Enc.enc (exprsL (partsL p.nodes p.edges)))
set_option maxHeartbeats 8000000 in
theorem propsR : PureOK Tryz.prog (G m) 34 sProps := by
  refine pure1 (C := CE m) (sigCE m) (mixCE m) Tryz.func34 rfl rfl rfl (by kernel_rfl) (by decide) (fun p ⟨⟨wv, ⟨wn, wN⟩, we, wE⟩, hb⟩ => ?_)
  have we' := maxLen_le we
  simp
  refine loop_rule (C := CE m) (sigCE m) (mixCE m) (fun i : Nat => ⟨[(1, .ptr 0 1 3 0 0), (3, .own 1 (exprsL (partsL (p.nodes.take i) p.edges)).length), (4, .int .i64 i)], [PB p, OX (exprsL (partsL (p.nodes.take i) p.edges))]⟩) (fun i => i ≤ p.nodes.length) (fun i => p.nodes.length - i) (by kernel_rfl) ⟨0, by simp, (weak_nil 3 9 42 (by simp) (by decide)).trans (weak_slots (by simp [partsL, exprsL, PB]))⟩ (fun i hi => ?_)
  by_cases hlt : i < p.nodes.length
  · have i1 : I64 ((i : Int) + 1) := by unfold I64; omega
    obtain ⟨w1, _, w4, w5⟩ := wN _ (ix_mem hlt)
    have hbd := exprs_bound p.nodes p.edges i hlt
    have hat := exprs_at p.nodes p.edges i hlt
    obtain ⟨L, hL⟩ : ∃ L, L = exprsL (partsL (p.nodes.take i) p.edges) := ⟨_, rfl⟩
    rw [← hL] at hbd hat
    obtain ⟨X, hX⟩ : ∃ X, X = (ix p.nodes i).props.map (·.e) := ⟨_, rfl⟩
    have hXl : X.length = (ix p.nodes i).props.length := by rw [hX]; simp
    rw [← hX] at hat
    simp [PB, OX, hlt, rowAt_enc hlt, ← hL]
    refine loop_rule (C := CE m) (sigCE m) (mixCE m) (fun k : Nat => ⟨[(1, .ptr 0 1 3 0 0), (3, .own 1 (L ++ X.take k).length), (4, .int .i64 i), (5, .int .i64 k)], [PB p, OX (L ++ X.take k)]⟩) (fun k => k ≤ X.length) (fun k => X.length - k) (by kernel_rfl) ⟨0, by simp, weak_keep 2 (by simp) (by simp) (by simp [AV.clean, AV.clean1]) (by simp) (by simp [PB, OX])⟩ (fun k hk => ?_)
    by_cases hkl : k < X.length
    · have i2 : I64 ((k : Int) + 1) := by unfold I64; omega
      have hkl2 : k < (ix p.nodes i).props.length := by omega
      have hXk : ix X k = (ix (ix p.nodes i).props k).e := by rw [hX]; exact ix_map_e hkl2
      have hmin : min k X.length = k := by omega
      have hmin2 : min (k + 1) X.length = k + 1 := by omega
      simp [PB, OX, hlt, hkl2, rowAt_enc hlt, ← hL, rowAt_enc hkl2, i2, hmin]
      refine ⟨⟨by omega, by omega⟩, k + 1, by omega, by omega, ?_⟩
      exact weak_keep 2 (by simp [hmin, hmin2] <;> omega) (by simp) (by simp [AV.clean, AV.clean1]) (by simp) (by simp [PB, OX, encRows, take_succ' hkl, hXk])
    have hkl2 : ¬ k < (ix p.nodes i).props.length := by omega
    have hk2 : X.take k = X := List.take_of_length_le (by omega)
    rw [hk2]
    by_cases h2 : i < p.edges.length
    · rw [if_pos h2] at hbd hat
      obtain ⟨M, hM⟩ : ∃ M, M = L ++ X := ⟨_, rfl⟩
      have hMl : M.length = L.length + X.length := by rw [hM]; simp
      obtain ⟨Y, hY⟩ : ∃ Y, Y = (ix p.edges i).props.map (·.e) := ⟨_, rfl⟩
      have hYl : Y.length = (ix p.edges i).props.length := by rw [hY]; simp
      have hML : M.length = L.length + X.length := hMl
      rw [← hM]
      have hlen2 : L.length + X.length = M.length := hMl.symm
      have hat2 : exprsL (partsL (p.nodes.take (i + 1)) p.edges) = M ++ Y := by rw [hat, hM, hY, List.append_assoc]
      simp [PB, OX, hlt, rowAt_enc hlt, h2, rowAt_enc h2, hkl2]
      refine loop_rule (C := CE m) (sigCE m) (mixCE m) (fun k : Nat => ⟨[(1, .ptr 0 1 3 0 0), (3, .own 1 (M ++ Y.take k).length), (4, .int .i64 i), (6, .int .i64 k)], [PB p, OX (M ++ Y.take k)]⟩) (fun k => k ≤ Y.length) (fun k => Y.length - k) (by kernel_rfl) ⟨0, by simp, weak_keep 2 (by simp) (by simp) (by simp [AV.clean, AV.clean1]) (by simp) (by simp [PB, OX])⟩ (fun k hk => ?_)
      by_cases hkl : k < Y.length
      · have i2 : I64 ((k : Int) + 1) := by unfold I64; omega
        have hkl2 : k < (ix p.edges i).props.length := by omega
        have hXk : ix Y k = (ix (ix p.edges i).props k).e := by rw [hY]; exact ix_map_e hkl2
        have hmin : min k Y.length = k := by omega
        have hmin2 : min (k + 1) Y.length = k + 1 := by omega
        simp [PB, OX, hlt, hkl2, rowAt_enc hlt, h2, rowAt_enc h2, rowAt_enc hkl2, i2, hmin]
        refine ⟨⟨by omega, by omega⟩, k + 1, by omega, by omega, ?_⟩
        exact weak_keep 2 (by simp [hmin, hmin2] <;> omega) (by simp) (by simp [AV.clean, AV.clean1]) (by simp) (by simp [PB, OX, encRows, take_succ' hkl, hXk])
      have hkl2 : ¬ k < (ix p.edges i).props.length := by omega
      have hk2 : Y.take k = Y := List.take_of_length_le (by omega)
      rw [hk2]
      simp [PB, OX, hlt, hkl2, h2, rowAt_enc hlt, rowAt_enc h2, i1]
      refine ⟨i + 1, by omega, by omega, ?_⟩
      rw [hat2]
      exact weak_keep 2 (by simp) (by simp) (by simp [AV.clean, AV.clean1]) (by simp) (by simp [PB, OX])
    · rw [if_neg h2, List.append_nil] at hat
      simp [PB, OX, hlt, hkl2, h2, rowAt_enc hlt, i1]
      refine ⟨i + 1, by omega, by omega, ?_⟩
      rw [hat]
      exact weak_keep 2 (by simp) (by simp) (by simp [AV.clean, AV.clean1]) (by simp) (by simp [PB, OX])
  · have e : p.nodes.take i = p.nodes := List.take_of_length_le (by omega)
    simp [PB, OX, hlt, e]
def exprW (n : Int) (e : Expr) : Int := w64 (n + sizeE e)
def edgeW (n : Int) (x : EdgePat) : Int := w64 (w64 (n + x.types.length) + x.props.length)
def nodeW (n : Int) (x : NodePat) : Int := w64 (w64 (n + x.labels.length) + x.props.length)
def pathW (n : Int) (p : PathPat) : Int := p.nodes.foldl nodeW (p.edges.foldl edgeW ((exprsL (partsL p.nodes p.edges)).foldl exprW (w64 (w64 (n + p.nodes.length) + p.edges.length))))
def itemW (n : Int) (x : Item) : Int := w64 (n + sizeE x.e)
def sortW (n : Int) (x : SortK) : Int := w64 (n + sizeE x.e)
def setW (n : Int) (x : SetI) : Int := w64 (n + sizeE x.e)
def manyE (c : Clause) : Int := c.sets.foldl setW (c.order.foldl sortW (c.items.foldl itemW (c.wh.foldl exprW (c.paths.foldl pathW (w64 ((c.names.length : Int) + sizeE c.e))))))
def WfCS (c : Clause) : Prop := WfC c ∧ ∀ p ∈ c.paths, WfPS p
noncomputable def CMn (m : Int) : Ctx := mkC Tryz.prog (G m) [(17, .pure sSzA), (34, .pure sProps)]
@[simp] theorem CMn_P (m : Int) : (CMn m).P = Tryz.prog := rfl
@[simp] theorem CMn_1 (m : Int) : (CMn m).S 17 = .pure sSzA := rfl
@[simp] theorem CMn_2 (m : Int) : (CMn m).S 34 = .pure sProps := rfl
theorem mixCMn (m : Int) : (CMn m).P.follows .mixedOrders = true := mixed
theorem sigCMn (m : Int) : SigOK (CMn m) := sigOK_cons (entryPure sizeR_ Tryz.func17 rfl (by decide)) (sigOK_cons (entryPure propsR Tryz.func34 rfl (by decide)) (sigOK_nil _ _))
theorem exprsL_wf {l : List NodePat} (h : ∀ x ∈ l, WfN x) : ∀ e ∈ exprsL l, WfE e := by
  intro e he
  obtain ⟨x, hx, h2⟩ := List.mem_flatMap.1 he
  obtain ⟨q, hq, rfl⟩ := List.mem_map.1 h2
  exact ((h x hx).2.2.2 q hq).2
def sMany : List AV → Option (Prop × AV) := spec1 (fun (c : Clause) => WfCS c) (fun c => .int .i64 (manyE c))
set_option maxHeartbeats 16000000 in
theorem manyR : PureOK Tryz.prog (G m) 23 sMany := by
  refine pure1 (C := CMn m) (sigCMn m) (mixCMn m) Tryz.func23 rfl rfl rfl (by kernel_rfl) (by decide) (fun c ⟨⟨⟨l1, w1⟩, ⟨l2, w2⟩, w3, ⟨l4, w4⟩, ⟨l5, w5⟩, ⟨l6, w6⟩, l7⟩, wp⟩ => ?_)
  have l1' := maxLen_le l1
  have l2' := maxLen_le l2
  have l4' := maxLen_le l4
  have l5' := maxLen_le l5
  have l6' := maxLen_le l6
  have l7' := maxLen_le l7
  obtain ⟨n0, hn0⟩ : ∃ n0, n0 = w64 ((c.names.length : Int) + sizeE c.e) := ⟨_, rfl⟩
  simp [sSzA, w3, ← hn0]
  refine loop_rule (C := CMn m) (sigCMn m) (mixCMn m) (fun q : Nat × Int => ⟨[(1, .ptr 0 1 21 0 0), (3, .int .i64 q.2), (4, .int .i64 q.1)], [CB c]⟩) (fun q => q.1 ≤ c.paths.length ∧ (c.paths.drop q.1).foldl pathW q.2 = c.paths.foldl pathW n0) (fun q => c.paths.length - q.1) (by kernel_rfl) ⟨(0, n0), by simp, weak_slots (by simp)⟩ (fun ⟨i, x⟩ ⟨hi, hs⟩ => ?_)
  simp only at hi hs ⊢
  by_cases hlt : i < c.paths.length
  · have i1 : I64 ((i : Int) + 1) := by unfold I64; omega
    have wps := wp _ (ix_mem hlt)
    have wps2 := wps
    obtain ⟨⟨pv, ⟨pn, pN⟩, pe, pE⟩, pb⟩ := wps2
    have pe' := maxLen_le pe
    rw [foldl_drop hlt] at hs
    obtain ⟨P, hP⟩ : ∃ P, P = ix c.paths i := ⟨_, rfl⟩
    rw [← hP] at pv pn pN pe pE pb pe' hs wps
    obtain ⟨X, hX⟩ : ∃ X, X = exprsL (partsL P.nodes P.edges) := ⟨_, rfl⟩
    have hXw : ∀ e ∈ X, WfE e := by rw [hX]; exact exprsL_wf (partsL_wf _ _ pN pE)
    have hXl : X.length ≤ 1048576 := by have := exprsL_len P.nodes P.edges; rw [← hX] at this; omega
    obtain ⟨x0, hx0⟩ : ∃ x0, x0 = w64 (w64 (x + P.nodes.length) + P.edges.length) := ⟨_, rfl⟩
    simp [CB, hlt, rowAt_enc hlt, ← hP, sProps, wps, ← hX, ← hx0]
    refine loop_rule (C := CMn m) (sigCMn m) (mixCMn m) (fun q : Nat × Int => ⟨[(1, .ptr 0 1 21 0 0), (3, .int .i64 q.2), (4, .int .i64 i), (5, Enc.enc X), (6, .int .i64 q.1)], [CB c]⟩) (fun q => q.1 ≤ X.length ∧ (X.drop q.1).foldl exprW q.2 = X.foldl exprW x0) (fun q => X.length - q.1) (by kernel_rfl) ⟨(0, x0), by simp, weak_slots (by simp [CB])⟩ (fun ⟨k, y⟩ ⟨hk, hs1⟩ => ?_)
    simp only at hk hs1 ⊢
    by_cases hkl : k < X.length
    · have i2 : I64 ((k : Int) + 1) := by unfold I64; omega
      have we := hXw _ (ix_mem hkl)
      rw [foldl_drop hkl] at hs1
      simp [CB, hkl, rowAt_enc hkl, sSzA, we, i2]
      exact ⟨k + 1, exprW y (ix X k), ⟨by omega, hs1⟩, by omega, weak_slots (by simp [exprW])⟩
    rw [List.drop_eq_nil_of_le (by omega), List.foldl_nil] at hs1
    simp [CB, hkl]
    refine loop_rule (C := CMn m) (sigCMn m) (mixCMn m) (fun q : Nat × Int => ⟨[(1, .ptr 0 1 21 0 0), (3, .int .i64 q.2), (4, .int .i64 i), (7, .int .i64 q.1)], [CB c]⟩) (fun q => q.1 ≤ P.edges.length ∧ (P.edges.drop q.1).foldl edgeW q.2 = P.edges.foldl edgeW (X.foldl exprW x0)) (fun q => P.edges.length - q.1) (by kernel_rfl) ⟨(0, y), ⟨by omega, by rw [hs1]; rfl⟩, weak_slots (by simp [CB])⟩ (fun ⟨k, y⟩ ⟨hk, hs2⟩ => ?_)
    simp only at hk hs2 ⊢
    by_cases hkl : k < P.edges.length
    · have i2 : I64 ((k : Int) + 1) := by unfold I64; omega
      rw [foldl_drop hkl] at hs2
      simp [CB, hlt, rowAt_enc hlt, ← hP, hkl, rowAt_enc hkl, i2]
      exact ⟨k + 1, edgeW y (ix P.edges k), ⟨by omega, hs2⟩, by omega, weak_slots (by simp [edgeW])⟩
    rw [List.drop_eq_nil_of_le (by omega), List.foldl_nil] at hs2
    simp [CB, hlt, rowAt_enc hlt, ← hP, hkl]
    refine loop_rule (C := CMn m) (sigCMn m) (mixCMn m) (fun q : Nat × Int => ⟨[(1, .ptr 0 1 21 0 0), (3, .int .i64 q.2), (4, .int .i64 i), (8, .int .i64 q.1)], [CB c]⟩) (fun q => q.1 ≤ P.nodes.length ∧ (P.nodes.drop q.1).foldl nodeW q.2 = pathW x P) (fun q => P.nodes.length - q.1) (by kernel_rfl) ⟨(0, y), ⟨by omega, by rw [hs2, hx0, hX]; rfl⟩, weak_slots (by simp [CB])⟩ (fun ⟨k, y⟩ ⟨hk, hs3⟩ => ?_)
    simp only at hk hs3 ⊢
    by_cases hkl : k < P.nodes.length
    · have i2 : I64 ((k : Int) + 1) := by unfold I64; omega
      rw [foldl_drop hkl] at hs3
      simp [CB, hlt, rowAt_enc hlt, ← hP, hkl, rowAt_enc hkl, i2]
      exact ⟨k + 1, nodeW y (ix P.nodes k), ⟨by omega, hs3⟩, by omega, weak_slots (by simp [nodeW])⟩
    rw [List.drop_eq_nil_of_le (by omega), List.foldl_nil] at hs3
    simp [CB, hlt, rowAt_enc hlt, ← hP, hkl, i1]
    exact ⟨i + 1, y, ⟨by omega, by rw [hs3]; exact hs⟩, by omega, weak_slots (by simp [CB])⟩
  rw [List.drop_eq_nil_of_le (by omega), List.foldl_nil] at hs
  subst hs
  obtain ⟨n1, hn1⟩ : ∃ n1, n1 = c.paths.foldl pathW n0 := ⟨_, rfl⟩
  rw [← hn1]
  simp [CB, hlt]
  refine loop_rule (C := CMn m) (sigCMn m) (mixCMn m) (fun q : Nat × Int => ⟨[(1, .ptr 0 1 21 0 0), (3, .int .i64 q.2), (9, .int .i64 q.1)], [CB c]⟩) (fun q => q.1 ≤ c.wh.length ∧ (c.wh.drop q.1).foldl exprW q.2 = c.wh.foldl exprW n1) (fun q => c.wh.length - q.1) (by kernel_rfl) ⟨(0, n1), by simp, weak_slots (by simp [CB])⟩ (fun ⟨i, x⟩ ⟨hi, hs⟩ => ?_)
  simp only at hi hs ⊢
  by_cases hlt : i < c.wh.length
  · have i1 : I64 ((i : Int) + 1) := by unfold I64; omega
    have w := w2 _ (ix_mem hlt)
    rw [foldl_drop hlt] at hs
    simp [CB, hlt, rowAt_enc hlt, sSzA, w, i1]
    exact ⟨i + 1, exprW x (ix c.wh i), ⟨by omega, hs⟩, by omega, weak_slots (by simp [exprW])⟩
  rw [List.drop_eq_nil_of_le (by omega), List.foldl_nil] at hs
  simp [CB, hlt]
  refine loop_rule (C := CMn m) (sigCMn m) (mixCMn m) (fun q : Nat × Int => ⟨[(1, .ptr 0 1 21 0 0), (3, .int .i64 q.2), (10, .int .i64 q.1)], [CB c]⟩) (fun q => q.1 ≤ c.items.length ∧ (c.items.drop q.1).foldl itemW q.2 = c.items.foldl itemW (c.wh.foldl exprW n1)) (fun q => c.items.length - q.1) (by kernel_rfl) ⟨(0, x), ⟨by omega, by rw [hs]; rfl⟩, weak_slots (by simp [CB])⟩ (fun ⟨i, x⟩ ⟨hi, hs⟩ => ?_)
  simp only at hi hs ⊢
  by_cases hlt : i < c.items.length
  · have i1 : I64 ((i : Int) + 1) := by unfold I64; omega
    have w := w4 _ (ix_mem hlt)
    rw [foldl_drop hlt] at hs
    simp [CB, hlt, rowAt_enc hlt, sSzA, w, i1]
    exact ⟨i + 1, itemW x (ix c.items i), ⟨by omega, hs⟩, by omega, weak_slots (by simp [itemW])⟩
  rw [List.drop_eq_nil_of_le (by omega), List.foldl_nil] at hs
  simp [CB, hlt]
  refine loop_rule (C := CMn m) (sigCMn m) (mixCMn m) (fun q : Nat × Int => ⟨[(1, .ptr 0 1 21 0 0), (3, .int .i64 q.2), (11, .int .i64 q.1)], [CB c]⟩) (fun q => q.1 ≤ c.order.length ∧ (c.order.drop q.1).foldl sortW q.2 = c.order.foldl sortW (c.items.foldl itemW (c.wh.foldl exprW n1))) (fun q => c.order.length - q.1) (by kernel_rfl) ⟨(0, x), ⟨by omega, by rw [hs]; rfl⟩, weak_slots (by simp [CB])⟩ (fun ⟨i, x⟩ ⟨hi, hs⟩ => ?_)
  simp only at hi hs ⊢
  by_cases hlt : i < c.order.length
  · have i1 : I64 ((i : Int) + 1) := by unfold I64; omega
    have w := w5 _ (ix_mem hlt)
    rw [foldl_drop hlt] at hs
    simp [CB, hlt, rowAt_enc hlt, sSzA, w, i1]
    exact ⟨i + 1, sortW x (ix c.order i), ⟨by omega, hs⟩, by omega, weak_slots (by simp [sortW])⟩
  rw [List.drop_eq_nil_of_le (by omega), List.foldl_nil] at hs
  simp [CB, hlt]
  refine loop_rule (C := CMn m) (sigCMn m) (mixCMn m) (fun q : Nat × Int => ⟨[(1, .ptr 0 1 21 0 0), (3, .int .i64 q.2), (12, .int .i64 q.1)], [CB c]⟩) (fun q => q.1 ≤ c.sets.length ∧ (c.sets.drop q.1).foldl setW q.2 = manyE c) (fun q => c.sets.length - q.1) (by kernel_rfl) ⟨(0, x), ⟨by omega, by rw [hs, hn1, hn0]; rfl⟩, weak_slots (by simp [CB])⟩ (fun ⟨i, x⟩ ⟨hi, hs⟩ => ?_)
  simp only at hi hs ⊢
  by_cases hlt : i < c.sets.length
  · have i1 : I64 ((i : Int) + 1) := by unfold I64; omega
    have w := w6 _ (ix_mem hlt)
    rw [foldl_drop hlt] at hs
    simp [CB, hlt, rowAt_enc hlt, sSzA, w, i1]
    exact ⟨i + 1, setW x (ix c.sets i), ⟨by omega, hs⟩, by omega, weak_slots (by simp [setW])⟩
  rw [List.drop_eq_nil_of_le (by omega), List.foldl_nil] at hs
  simp [CB, hlt, hs]
def clauseW (n : Int) (c : Clause) : Int := w64 (n + manyE c)
def lightB (q : Query) : Bool := decide (q.clauses.foldl clauseW 0 ≤ 3000)
def WfQS (q : Query) : Prop := q.clauses.length ≤ maxLen ∧ ∀ c ∈ q.clauses, WfCS c
noncomputable def CLg (m : Int) : Ctx := mkC Tryz.prog (G m) [(23, .pure sMany)]
@[simp] theorem CLg_P (m : Int) : (CLg m).P = Tryz.prog := rfl
@[simp] theorem CLg_1 (m : Int) : (CLg m).S 23 = .pure sMany := rfl
theorem mixCLg (m : Int) : (CLg m).P.follows .mixedOrders = true := mixed
theorem sigCLg (m : Int) : SigOK (CLg m) := sigOK_cons (entryPure manyR Tryz.func23 rfl (by decide)) (sigOK_nil _ _)
def sLight : List AV → Option (Prop × AV) := spec1 (fun (q : Query) => WfQS q) (fun q => .bool (lightB q))
set_option maxHeartbeats 4000000 in
theorem lightR : PureOK Tryz.prog (G m) 9 sLight := by
  refine pure1 (C := CLg m) (sigCLg m) (mixCLg m) Tryz.func9 rfl rfl rfl (by kernel_rfl) (by decide) (fun q ⟨hl, hw⟩ => ?_)
  have hl' := maxLen_le hl
  simp
  refine loop_rule (C := CLg m) (sigCLg m) (mixCLg m) (fun r : Nat × Int => ⟨[(1, .ptr 0 1 1 0 0), (3, .int .i64 r.2), (4, .int .i64 r.1)], [QB q]⟩) (fun r => r.1 ≤ q.clauses.length ∧ (q.clauses.drop r.1).foldl clauseW r.2 = q.clauses.foldl clauseW 0) (fun r => q.clauses.length - r.1) (by kernel_rfl) ⟨(0, 0), by simp, weak_slots (by simp)⟩ (fun ⟨i, x⟩ ⟨hi, hs⟩ => ?_)
  simp only at hi hs ⊢
  by_cases hlt : i < q.clauses.length
  · have i1 : I64 ((i : Int) + 1) := by unfold I64; omega
    have w := hw _ (ix_mem hlt)
    rw [foldl_drop hlt] at hs
    simp [QB, hlt, rowAt_enc hlt, sMany, w, i1]
    exact ⟨i + 1, clauseW x (ix q.clauses i), ⟨by omega, hs⟩, by omega, weak_slots (by simp [clauseW])⟩
  rw [List.drop_eq_nil_of_le (by omega), List.foldl_nil] at hs
  simp [QB, hlt, lightB, hs]
end
end Go.Proofs.YtgjljfbohpnfcaaGreat


namespace Go.Proofs.YtgjljfbohpnfcaaGreat
open Go.RowKit
set_option linter.unusedSimpArgs false
set_option linter.unusedVariables false
set_option maxRecDepth 100000
section
variable {m : Int}
noncomputable def CLo (m : Int) : Ctx := mkC Tryz.prog (G m) [(9, .pure sLight), (10, .pure sLivesB), (11, .pure sScope), (21, .pure sKind)]
@[simp] theorem CLo_P (m : Int) : (CLo m).P = Tryz.prog := rfl
@[simp] theorem CLo_G (m : Int) : (CLo m).G = (G m) := rfl
@[simp] theorem CLo_1 (m : Int) : (CLo m).S 9 = .pure sLight := rfl
@[simp] theorem CLo_2 (m : Int) : (CLo m).S 10 = .pure sLivesB := rfl
@[simp] theorem CLo_3 (m : Int) : (CLo m).S 11 = .pure sScope := rfl
@[simp] theorem CLo_4 (m : Int) : (CLo m).S 21 = .pure sKind := rfl
end
end Go.Proofs.YtgjljfbohpnfcaaGreat


namespace Go.Proofs.YtgjljfbohpnfcaaGreat
open Go.RowKit
set_option linter.unusedSimpArgs false
set_option linter.unusedVariables false
set_option maxRecDepth 100000
section
variable {m : Int}
noncomputable def CLp2 (m : Int) : Ctx := mkC Tryz.prog (G m) [(9, .pure sLight), (10, .pure sLivesB), (11, .pure sScope), (14, .pure sCheckQ), (22, .pure sQuery)]
@[simp] theorem CLp2_P (m : Int) : (CLp2 m).P = Tryz.prog := rfl
@[simp] theorem CLp2_G (m : Int) : (CLp2 m).G = (G m) := rfl
@[simp] theorem CLp2_1 (m : Int) : (CLp2 m).S 9 = .pure sLight := rfl
@[simp] theorem CLp2_2 (m : Int) : (CLp2 m).S 10 = .pure sLivesB := rfl
@[simp] theorem CLp2_3 (m : Int) : (CLp2 m).S 11 = .pure sScope := rfl
@[simp] theorem CLp2_4 (m : Int) : (CLp2 m).S 14 = .pure sCheckQ := rfl
@[simp] theorem CLp2_5 (m : Int) : (CLp2 m).S 22 = .pure sQuery := rfl
end
end Go.Proofs.YtgjljfbohpnfcaaGreat


namespace Go.Proofs.YtgjljfbohpnfcaaGreat
open Go.RowKit
set_option linter.unusedSimpArgs false
set_option linter.unusedVariables false
set_option maxRecDepth 100000
section
variable {m : Int}
noncomputable def CLc2 (m : Int) : Ctx := mkC Tryz.prog (G m) [(9, .pure sLight), (10, .pure sLivesB), (11, .pure sScope), (14, .pure sCheckQ)]
@[simp] theorem CLc2_P (m : Int) : (CLc2 m).P = Tryz.prog := rfl
@[simp] theorem CLc2_G (m : Int) : (CLc2 m).G = (G m) := rfl
@[simp] theorem CLc2_1 (m : Int) : (CLc2 m).S 9 = .pure sLight := rfl
@[simp] theorem CLc2_2 (m : Int) : (CLc2 m).S 10 = .pure sLivesB := rfl
@[simp] theorem CLc2_3 (m : Int) : (CLc2 m).S 11 = .pure sScope := rfl
@[simp] theorem CLc2_4 (m : Int) : (CLc2 m).S 14 = .pure sCheckQ := rfl
end
end Go.Proofs.YtgjljfbohpnfcaaGreat


namespace Go.Proofs.YtgjljfbohpnfcaaGreat
open Go.RowKit Go.WideShapes Go.ChangeShapes
set_option linter.unusedSimpArgs false
set_option linter.unusedVariables false
theorem bulk_one {H : Type} (d : DataW H) : 1 ≤ Rows.uptoBulk d := by
  cases d with
  | lit l => cases l <;> simp [Rows.uptoBulk]
  | _ => simp [Rows.uptoBulk]
def ReadsU (P : Program) (n : Nat) (t : TypeId) (α : Type) [Enc α] (wf : α → Prop) (bulk : α → Nat) : Prop :=
  ∀ {H : Type} (enc : TypeId × Value → H) (w : World) (held : Bool) (cs : List Value) (x : DataW H × List MemPlace), DataW.trod enc P w 0 (fun _ => true) held n t cs = some x → ∃ a : α, wf a ∧ CellsD w cs (Enc.cells a) ∧ bulk a ≤ Rows.uptoBulk x.1
theorem readsU_one {P : Program} {n : Nat} {t : TypeId} {α : Type} [Enc α] {wf : α → Prop} (h : ReadsAt P n t α wf) : ReadsU P n t α wf (fun _ => 1) := fun enc w held cs x hx => by
  obtain ⟨a, h1, h2⟩ := h enc w held cs x hx
  exact ⟨a, h1, h2, bulk_one _⟩
def bulkS (s : ByteArray) : Nat := s.size + 1
theorem readsU_str {P : Program} {n : Nat} {t : TypeId} (h : strT P t = true) : ReadsU P n t ByteArray (fun s => s.size ≤ maxLen) bulkS := by
  intro H enc w held cs x hx
  cases n with
  | zero => simp [DataW.trod] at hx
  | succ n =>
    unfold DataW.trod at hx
    rw [strT_eq h] at hx
    have key : ∃ s : ByteArray, cs = [.string s] ∧ s.size ≤ maxLen ∧ x.1 = .lit (.string s.data.toList) := by
      split at hx <;> simp_all
      first | exact hx.2 ▸ rfl | (obtain ⟨_, rfl⟩ := hx; rfl) | (rw [← hx.2]) | (subst_vars; simp)
    obtain ⟨s, rfl, hs, hx1⟩ := key
    refine ⟨s, hs, CellsD.one (.str _) rfl, ?_⟩
    rw [hx1]
    simp [Rows.uptoBulk, bulkS]
theorem bulk_sum {H : Type} : ∀ (l : List (DataW H × List MemPlace)) (f : Nat → Nat), (∀ i (h : i < l.length), f i ≤ Rows.uptoBulk (l[i]).1) → ((List.range l.length).map f).sum ≤ Rows.uptoBulkAll (l.map (·.1))
  | [], f, _ => by simp [Rows.uptoBulkAll]
  | x :: r, f, h => by
    have h1 := bulk_sum r (fun i => f (i + 1)) (fun i hi => by
      have := h (i + 1) (by simp; omega)
      simpa using this)
    have h2 := h 0 (by simp)
    simp only [List.length_cons, List.range_succ_eq_map, List.map_cons, List.sum_cons, List.map_map, Rows.uptoBulkAll]
    simp only [List.getElem_cons_zero] at h2
    have e : (f ∘ Nat.succ) = fun i => f (i + 1) := rfl
    rw [e]
    omega
section
variable {P : Program} {n : Nat} {t e : TypeId}
def bulkL {α : Type} (bulk : α → Nat) (l : List α) : Nat := (l.map bulk).sum + 1
theorem readsU_list {α : Type} [Enc α] [Inhabited α] {wf : α → Prop} {bulk : α → Nat} (h : elT P t = some e) (hz : szT P e = Enc.sz α) (hp : 0 < szT P e) (he : ReadsU P n e α wf bulk) : ReadsU P (n + 1) t (List α) (WfL wf) (bulkL bulk) := by
  intro H enc w held cs x hx
  rcases DataW.trod_slice (elT_eq h) hx with ⟨rfl, rfl⟩ | ⟨a, len, cap, elems, rest, m, hm, rfl, hxe, _, hl, hc, hlen, hel, _, _⟩
  · refine ⟨[], ⟨Nat.zero_le _, by simp⟩, CellsD.one ?_ rfl, by simp [bulkL, Rows.uptoBulk]⟩
    exact .slice _ false [] none 0 0 (fun _ _ => undef) rfl (Nat.le_refl _) (Nat.zero_le _) (fun h => by cases h) (fun r h => by cases h) (fun h => absurd rfl h) (fun i j r v h => by simp at h)
  · obtain rfl : n = m := by omega
    obtain ⟨V, hV⟩ := Go.Deep.choose_lt (n := len) (p := fun i (y : α × List Value) => (wf y.1 ∧ ∀ (hi : i < elems.length), bulk y.1 ≤ Rows.uptoBulk (elems[i]).1) ∧ w.cells? 0 (a.add (i * szT P e)) (szT P e) = some y.2 ∧ CellsD w y.2 (Enc.cells y.1)) (fun i hi => by
      have := hel i hi
      rw [List.getElem?_eq_getElem (by omega)] at this
      obtain ⟨cs', h1, h2⟩ := Option.bind_eq_some_iff.1 this
      obtain ⟨y, hy, hcd, hb⟩ := he enc w held cs' _ h2
      exact ⟨(y, cs'), ⟨hy, fun _ => hb⟩, h1, hcd⟩)
    refine ⟨(List.range len).map fun i => (V i).1, ⟨by simp; omega, fun y hy => ?_⟩, CellsD.one ?_ rfl, ?_⟩
    · obtain ⟨i, hi, rfl⟩ := List.mem_map.1 hy
      exact (hV i (List.mem_range.1 hi)).1.1
    · have hcell : ∀ i j, i < len → j < szT P e → ∃ v, w.cell? (a.add (i * szT P e + j)) = some v ∧ (V i).2[j]? = some v := by
        intro i j hi hj
        obtain ⟨_, h2, _⟩ := hV i hi
        obtain ⟨_, h3, h4⟩ := World.cells?_some h2
        have := h4 j hj
        rw [Go.Deep.add_add] at this
        rw [List.getElem?_eq_getElem (by omega)] at this ⊢
        exact ⟨_, this, rfl⟩
      have hsz : ∀ i, i < len → (Enc.cells (V i).1).length = Enc.sz α := by
        intro i hi
        obtain ⟨_, h2, h3⟩ := hV i hi
        obtain ⟨_, h4, _⟩ := World.cells?_some h2
        rw [← h3.1, h4, hz]
      refine .slice _ false _ (some a) len cap (fun i j => ((V i).2[j]?).getD undef) (by simp) (by simpa using hl) hc (fun h => by cases h) (fun r hr => ?_) (fun h0 => ?_) (fun i j r v hr hv => ?_)
      · simp only [List.map_map, List.mem_map, List.mem_range, Function.comp_apply] at hr
        obtain ⟨i, hi, rfl⟩ := hr
        exact hsz i hi
      · have h0' : 0 < len := by simp at h0; omega
        obtain ⟨v0, hv0, _⟩ := hcell 0 0 h0' (by omega)
        simp only [Nat.zero_mul, Nat.zero_add] at hv0
        obtain ⟨b, off, rfl⟩ := addr_plainA (by simpa [Addr.add] using hv0 : w.cell? a = some v0)
        refine ⟨b, off, rfl, ?_, id, fun i j hi hj => ?_⟩
        · have := World.block_lt_of_cell? w _ hv0
          simpa [Addr.add] using this
        · have hi' : i < len := by simpa using hi
          rw [← hz] at hj
          obtain ⟨v, hv, hv'⟩ := hcell i j hi' hj
          rw [hv', ← hz]
          have e : (⟨b, off, none⟩ : Addr).add (i * szT P e + j) = ⟨b, off + i * szT P e + j, none⟩ := by
            unfold Addr.add
            split
            · rename_i h; rw [Nat.add_assoc, h]; rfl
            · simp [Nat.add_assoc]
          rw [e] at hv
          refine ⟨hv, ?_⟩
          obtain ⟨_, _, h3⟩ := hV i hi'
          obtain ⟨u, hu, h1, _⟩ := h3.2 j _ (List.getElem?_eq_getElem (by rw [hsz i hi', ← hz]; exact hj))
          rw [hv'] at hu
          injection hu with hu
          subst hu
          exact h1
      · simp only [List.map_map, List.getElem?_map, Option.map_eq_some_iff, Function.comp_apply] at hr
        obtain ⟨i', hi', rfl⟩ := hr
        have hlt : i < len := by have := (List.getElem?_eq_some_iff.1 hi').1; simpa using this
        rw [List.getElem?_range hlt] at hi'
        injection hi' with hi'
        subst hi'
        obtain ⟨_, _, h3⟩ := hV i hlt
        obtain ⟨u, hu, _, h4⟩ := h3.2 j v hv
        rw [hu]
        exact h4
    · rw [hxe]
      have := bulk_sum elems (fun i => bulk (V i).1) (fun i hi => (hV i (by omega)).1.2 hi)
      rw [hlen] at this
      simp only [Rows.uptoBulk, bulkL, List.map_map]
      have e : (bulk ∘ fun i => (V i).1) = fun i => bulk (V i).1 := rfl
      rw [e]
      omega
def pick {H : Type} (xs : List (DataW H × List MemPlace)) (k : Nat) : Nat := match xs[k]? with | some y => Rows.uptoBulk y.1 | none => 0
theorem pick_sum {H : Type} : ∀ (n : Nat) (xs : List (DataW H × List MemPlace)), ((List.range n).map (pick xs)).sum ≤ Rows.uptoBulkAll (xs.map (·.1))
  | 0, xs => by simp
  | n + 1, [] => by
    have e : pick ([] : List (DataW H × List MemPlace)) = fun _ => 0 := by funext k; simp [pick]
    rw [e]
    have : ∀ l : List Nat, (l.map fun _ => 0).sum = 0 := fun l => by induction l with
      | nil => rfl
      | cons x r ih => simp [ih]
    rw [this]
    exact Nat.zero_le _
  | n + 1, x :: r => by
    have h := pick_sum n r
    have e : (pick (x :: r) ∘ Nat.succ) = pick r := by funext k; simp [pick]
    have e0 : pick (x :: r) 0 = Rows.uptoBulk x.1 := by simp [pick]
    simp only [List.range_succ_eq_map, List.map_cons, List.sum_cons, List.map_map, e, e0, Rows.uptoBulkAll]
    omega
theorem structU {H : Type} {enc : TypeId × Value → H} {w : World} {held : Bool} {cs : List Value} {x : DataW H × List MemPlace} (hs : ∃ fs, P.underlying t = some (.struct fs)) (h : DataW.trod enc P w 0 (fun _ => true) held n t cs = some x) :
    ∃ (m : Nat) (xs : List (DataW H × List MemPlace)), n = m + 1 ∧ cs.length = szT P t ∧ (∀ k, ((List.range k).map (pick xs)).sum + 1 ≤ Rows.uptoBulk x.1) ∧ ∀ k off ty, fldT P t k = some (off, ty) → ∃ y, pick xs k = Rows.uptoBulk y.1 ∧ DataW.trod enc P w 0 (fun _ => true) held m ty ((cs.drop off).take (szT P ty)) = some y := by
  obtain ⟨fs, ht⟩ := hs
  obtain ⟨xs, m, hm, hx, hl, hlen, hf⟩ := DataW.trod_struct ht h
  refine ⟨m, xs, hm, hl, fun k => ?_, fun k off ty hk => ?_⟩
  · rw [hx]
    have := pick_sum k xs
    simp only [Rows.uptoBulk]
    omega
  · obtain ⟨fs', f, h1, h2, rfl, rfl⟩ := fldT_eq hk
    rw [ht] at h1
    injection h1 with h1
    injection h1 with h1
    subst h1
    have := hf k f h2
    have hk : k < xs.length := by have := (Array.getElem?_eq_some_iff.1 h2).1; omega
    rw [List.getElem?_eq_getElem hk] at this
    exact ⟨_, by simp [pick, hk], this⟩
theorem ReadsU.struct {α : Type} [Enc α] {wf : α → Prop} {bulk : α → Nat} {H : Type} {enc : TypeId × Value → H} {w : World} {held : Bool} {v : Value} {d : DataW H} {p : List MemPlace} (R : ∀ n, ReadsU P n t α wf bulk) (hE : ∀ a : α, Enc.enc a = .agg (Enc.cells a)) {r : Reach} {b0 : Nat} (ht : ∃ fs, P.underlying t = some (.struct fs)) (hv : Value.okWide P w r b0 t v) (h : DataW.Trod enc P w 0 (fun _ => true) held t v d p) : ∃ a : α, wf a ∧ RepD w (fun _ => False) v (Enc.enc a) ∧ bulk a ≤ Rows.uptoBulk d := by
  obtain ⟨fs, ht⟩ := ht
  obtain ⟨cs, rfl, _⟩ := okWide_struct ht hv
  obtain ⟨n, h⟩ := h
  obtain ⟨a, ha, hc, hb⟩ := R n enc w held _ _ h
  refine ⟨a, ha, ?_, hb⟩
  rw [hE a]
  obtain ⟨h1, h2⟩ := hc
  simp only [Value.cells] at h1 h2
  refine .agg cs _ (fun j => (cs[j]?).getD undef) (by simpa using h1) (fun j hj => ?_) (fun j u hu => ?_)
  · obtain ⟨u, hu, h3, _⟩ := h2 j _ (List.getElem?_eq_getElem hj)
    have hu : cs[j]? = some u := by simpa using hu
    rw [hu]
    exact ⟨rfl, h3⟩
  · obtain ⟨u', hu', _, h4⟩ := h2 j u hu
    have hu' : cs[j]? = some u' := by simpa using hu'
    rw [hu']
    exact h4
end
end Go.Proofs.YtgjljfbohpnfcaaGreat


namespace Go.Proofs.YtgjljfbohpnfcaaGreat
open Go.RowKit Go.WideShapes Go.ChangeShapes
set_option linter.unusedSimpArgs false
set_option linter.unusedVariables false
set_option maxRecDepth 100000
mutual
def bulkV : Val → Nat
  | .mk _ _ _ s l => bulkVs l + s.size + 6
def bulkVs : List Val → Nat
  | [] => 0
  | v :: r => bulkV v + bulkVs r
end
theorem bulkVs_sum : ∀ l : List Val, bulkVs l = (l.map bulkV).sum
  | [] => rfl
  | v :: r => by rw [bulkVs, bulkVs_sum r]; rfl
mutual
def bulkE : Expr → Nat
  | .mk _ v n _ k => bulkEs k + bulkV v + n.size + 5
def bulkEs : List Expr → Nat
  | [] => 0
  | v :: r => bulkE v + bulkEs r
end
theorem bulkEs_sum : ∀ l : List Expr, bulkEs l = (l.map bulkE).sum
  | [] => rfl
  | v :: r => by rw [bulkEs, bulkEs_sum r]; rfl
section
variable {H : Type} {enc : TypeId × Value → H} {w : World} {held : Bool}
theorem trod_pos {P : Program} {n : Nat} {t : TypeId} {cs : List Value} {x : DataW H × List MemPlace} (h : DataW.trod enc P w 0 (fun _ => true) held n t cs = some x) : ∃ m, n = m + 1 := by
  cases n with
  | zero => simp [DataW.trod] at h
  | succ n => exact ⟨n, rfl⟩
end
theorem readsU_val : ∀ n, ReadsU Tryz.prog n 39 Val WfV bulkV := by
  intro n
  induction n using Nat.strongRecOn with
  | _ n ih =>
    intro H enc w held cs x hx
    obtain ⟨m, xs, rfl, hl, hb, hf⟩ := structU ⟨_, rfl⟩ hx
    obtain ⟨y0, b0, t0⟩ := hf 0 0 3 (by kernel_rfl)
    obtain ⟨y1, b1, t1⟩ := hf 1 1 3 (by kernel_rfl)
    obtain ⟨y2, b2, t2⟩ := hf 2 2 3 (by kernel_rfl)
    obtain ⟨y3, b3, t3⟩ := hf 3 3 9 (by kernel_rfl)
    obtain ⟨y4, b4, t4⟩ := hf 4 4 37 (by kernel_rfl)
    obtain ⟨k, _, c0, u0⟩ := readsU_one (readsAt_int (by kernel_rfl)) enc w held _ _ t0
    obtain ⟨nn, _, c1, u1⟩ := readsU_one (readsAt_int (by kernel_rfl)) enc w held _ _ t1
    obtain ⟨d, _, c2, u2⟩ := readsU_one (readsAt_int (by kernel_rfl)) enc w held _ _ t2
    obtain ⟨s, w3, c3, u3⟩ := readsU_str (by kernel_rfl) enc w held _ _ t3
    obtain ⟨m', rfl⟩ := trod_pos t4
    obtain ⟨l, ⟨w4, w5⟩, c4, u4⟩ := readsU_list (e := 39) (by kernel_rfl) (by kernel_rfl) (of_decide_eq_true (by kernel_rfl)) (ih m' (by omega)) enc w held _ _ t4
    refine ⟨.mk k nn d s l, .mk _ _ _ _ _ w3 w4 w5, ?_, ?_⟩
    · rw [cells_val]
      exact CellsD.split (o := 0) (s := 1) c0 (CellsD.split (s := 1) c1 (CellsD.split (s := 1) c2 (CellsD.split (s := 1) c3 (CellsD.split (s := 1) c4 (CellsD.last (by rw [hl, show szT Tryz.prog 39 = 5 by kernel_rfl]; decide))))))
    · have h5 := hb 5
      have u0 : 1 ≤ Rows.uptoBulk y0.1 := u0
      have u1 : 1 ≤ Rows.uptoBulk y1.1 := u1
      have u2 : 1 ≤ Rows.uptoBulk y2.1 := u2
      simp [List.range_succ, b0, b1, b2, b3, b4] at h5
      simp only [bulkV, bulkVs_sum, bulkS, bulkL] at u3 u4 ⊢
      omega
theorem readsU_expr : ∀ n, ReadsU Tryz.prog n 42 Expr WfE bulkE := by
  intro n
  induction n using Nat.strongRecOn with
  | _ n ih =>
    intro H enc w held cs x hx
    obtain ⟨m, xs, rfl, hl, hb, hf⟩ := structU ⟨_, rfl⟩ hx
    obtain ⟨y0, b0, t0⟩ := hf 0 0 3 (by kernel_rfl)
    obtain ⟨y1, b1, t1⟩ := hf 1 1 39 (by kernel_rfl)
    obtain ⟨y2, b2, t2⟩ := hf 2 6 9 (by kernel_rfl)
    obtain ⟨y3, b3, t3⟩ := hf 3 7 4 (by kernel_rfl)
    obtain ⟨y4, b4, t4⟩ := hf 4 8 40 (by kernel_rfl)
    obtain ⟨o, _, c0, u0⟩ := readsU_one (readsAt_int (by kernel_rfl)) enc w held _ _ t0
    obtain ⟨v, w1, c1, u1⟩ := readsU_val _ enc w held _ _ t1
    obtain ⟨s, w2, c2, u2⟩ := readsU_str (by kernel_rfl) enc w held _ _ t2
    obtain ⟨d, _, c3, u3⟩ := readsU_one (readsAt_bool (by kernel_rfl)) enc w held _ _ t3
    obtain ⟨m', rfl⟩ := trod_pos t4
    obtain ⟨l, ⟨w4, w5⟩, c4, u4⟩ := readsU_list (e := 42) (by kernel_rfl) (by kernel_rfl) (of_decide_eq_true (by kernel_rfl)) (ih m' (by omega)) enc w held _ _ t4
    refine ⟨.mk o v s d l, .mk _ _ _ _ _ w1 w2 w4 w5, ?_, ?_⟩
    · have e : Enc.cells (Expr.mk o v s d l) = Enc.cells o ++ (Enc.cells v ++ (Enc.cells s ++ (Enc.cells d ++ (Enc.cells l ++ [])))) := by
        rw [cells_expr, cells_val]
        rfl
      rw [e]
      exact CellsD.split (o := 0) (s := 1) c0 (CellsD.split (s := 5) c1 (CellsD.split (s := 1) c2 (CellsD.split (s := 1) c3 (CellsD.split (s := 1) c4 (CellsD.last (by rw [hl, show szT Tryz.prog 42 = 9 by kernel_rfl]; decide))))))
    · have h5 := hb 5
      have u0 : 1 ≤ Rows.uptoBulk y0.1 := u0
      have u3 : 1 ≤ Rows.uptoBulk y3.1 := u3
      simp [List.range_succ, b0, b1, b2, b3, b4] at h5
      simp only [bulkE, bulkEs_sum, bulkS, bulkL] at u2 u4 ⊢
      omega
end Go.Proofs.YtgjljfbohpnfcaaGreat


namespace Go.Proofs.YtgjljfbohpnfcaaGreat
open Go.RowKit Go.WideShapes Go.ChangeShapes
set_option linter.unusedSimpArgs false
set_option linter.unusedVariables false
set_option maxRecDepth 100000
def Ws (s : ByteArray) : Prop := s.size ≤ maxLen
theorem readsU_list' {P : Program} {n : Nat} {t e : TypeId} {α : Type} [Enc α] [Inhabited α] {wf : α → Prop} {bulk : α → Nat} (h : elT P t = some e) (hz : szT P e = Enc.sz α) (hp : 0 < szT P e) (he : ∀ n, ReadsU P n e α wf bulk) : ReadsU P n t (List α) (WfL wf) (bulkL bulk) := by
  cases n with
  | zero => intro H enc w held cs x hx; simp [DataW.trod] at hx
  | succ n => exact readsU_list h hz hp (he n)
theorem readsU_s : ∀ n, ReadsU Tryz.prog n 9 ByteArray Ws bulkS := fun _ => readsU_str (by kernel_rfl)
def bulkQ (x : PropPat) : Nat := bulkS x.key + bulkE x.e + 1
theorem readsU_PropPat : ∀ n, ReadsU Tryz.prog n 72 PropPat WfQ bulkQ := by
  intro n H enc w held cs x hx
  obtain ⟨m, xs, rfl, hl, hb, hf⟩ := structU ⟨_, rfl⟩ hx
  obtain ⟨y0, b0, t0⟩ := hf 0 0 9 (by kernel_rfl)
  obtain ⟨y1, b1, t1⟩ := hf 1 1 42 (by kernel_rfl)
  obtain ⟨a0, w0, c0, u0⟩ := (readsU_s _) enc w held _ _ t0
  obtain ⟨a1, w1, c1, u1⟩ := (readsU_expr _) enc w held _ _ t1
  refine ⟨⟨a0, a1⟩, ⟨w0, w1⟩, ?_, ?_⟩
  · have e : Enc.cells (⟨a0, a1⟩ : PropPat) = Enc.cells a0 ++ (Enc.cells a1 ++ ([])) := by
      rw [cells_expr a1]
      rfl
    rw [e]
    exact CellsD.split (o := 0) (s := 1) c0 (CellsD.split (s := 9) c1 (CellsD.last (by rw [hl, show szT Tryz.prog 72 = 10 by kernel_rfl]; decide)))
  · have h5 := hb 2
    simp [List.range_succ, b0, b1] at h5
    simp only [bulkQ]
    omega
def W0N (x : NodePat) : Prop := Ws x.var ∧ WfL Ws x.labels ∧ WfL WfQ x.props
def bulkN (x : NodePat) : Nat := bulkS x.var + bulkL bulkS x.labels + bulkL bulkQ x.props + 1
theorem readsU_NodePat : ∀ n, ReadsU Tryz.prog n 64 NodePat W0N bulkN := by
  intro n H enc w held cs x hx
  obtain ⟨m, xs, rfl, hl, hb, hf⟩ := structU ⟨_, rfl⟩ hx
  obtain ⟨y0, b0, t0⟩ := hf 0 0 9 (by kernel_rfl)
  obtain ⟨y1, b1, t1⟩ := hf 1 1 33 (by kernel_rfl)
  obtain ⟨y2, b2, t2⟩ := hf 2 2 62 (by kernel_rfl)
  obtain ⟨a0, w0, c0, u0⟩ := (readsU_s _) enc w held _ _ t0
  obtain ⟨a1, w1, c1, u1⟩ := (readsU_list' (e := 9) (by kernel_rfl) (by kernel_rfl) (of_decide_eq_true (by kernel_rfl)) readsU_s) enc w held _ _ t1
  obtain ⟨a2, w2, c2, u2⟩ := (readsU_list' (e := 72) (by kernel_rfl) (by kernel_rfl) (of_decide_eq_true (by kernel_rfl)) readsU_PropPat) enc w held _ _ t2
  refine ⟨⟨a0, a1, a2⟩, ⟨w0, w1, w2⟩, ?_, ?_⟩
  · have e : Enc.cells (⟨a0, a1, a2⟩ : NodePat) = Enc.cells a0 ++ (Enc.cells a1 ++ (Enc.cells a2 ++ ([]))) := by
      rfl
    rw [e]
    exact CellsD.split (o := 0) (s := 1) c0 (CellsD.split (s := 1) c1 (CellsD.split (s := 1) c2 (CellsD.last (by rw [hl, show szT Tryz.prog 64 = 3 by kernel_rfl]; decide))))
  · have h5 := hb 3
    simp [List.range_succ, b0, b1, b2] at h5
    simp only [bulkN]
    omega
def W0G (x : EdgePat) : Prop := Ws x.var ∧ WfL Ws x.types ∧ WfL WfQ x.props
def bulkG (x : EdgePat) : Nat := bulkS x.var + bulkL bulkS x.types + 1 + 1 + 1 + 1 + bulkL bulkQ x.props + 1
theorem readsU_EdgePat : ∀ n, ReadsU Tryz.prog n 67 EdgePat W0G bulkG := by
  intro n H enc w held cs x hx
  obtain ⟨m, xs, rfl, hl, hb, hf⟩ := structU ⟨_, rfl⟩ hx
  obtain ⟨y0, b0, t0⟩ := hf 0 0 9 (by kernel_rfl)
  obtain ⟨y1, b1, t1⟩ := hf 1 1 33 (by kernel_rfl)
  obtain ⟨y2, b2, t2⟩ := hf 2 2 3 (by kernel_rfl)
  obtain ⟨y3, b3, t3⟩ := hf 3 3 3 (by kernel_rfl)
  obtain ⟨y4, b4, t4⟩ := hf 4 4 3 (by kernel_rfl)
  obtain ⟨y5, b5, t5⟩ := hf 5 5 3 (by kernel_rfl)
  obtain ⟨y6, b6, t6⟩ := hf 6 6 62 (by kernel_rfl)
  obtain ⟨a0, w0, c0, u0⟩ := (readsU_s _) enc w held _ _ t0
  obtain ⟨a1, w1, c1, u1⟩ := (readsU_list' (e := 9) (by kernel_rfl) (by kernel_rfl) (of_decide_eq_true (by kernel_rfl)) readsU_s) enc w held _ _ t1
  obtain ⟨a2, w2, c2, u2⟩ := (readsU_one (readsAt_int (by kernel_rfl))) enc w held _ _ t2
  have u2 : 1 ≤ Rows.uptoBulk y2.1 := u2
  obtain ⟨a3, w3, c3, u3⟩ := (readsU_one (readsAt_int (by kernel_rfl))) enc w held _ _ t3
  have u3 : 1 ≤ Rows.uptoBulk y3.1 := u3
  obtain ⟨a4, w4, c4, u4⟩ := (readsU_one (readsAt_int (by kernel_rfl))) enc w held _ _ t4
  have u4 : 1 ≤ Rows.uptoBulk y4.1 := u4
  obtain ⟨a5, w5, c5, u5⟩ := (readsU_one (readsAt_int (by kernel_rfl))) enc w held _ _ t5
  have u5 : 1 ≤ Rows.uptoBulk y5.1 := u5
  obtain ⟨a6, w6, c6, u6⟩ := (readsU_list' (e := 72) (by kernel_rfl) (by kernel_rfl) (of_decide_eq_true (by kernel_rfl)) readsU_PropPat) enc w held _ _ t6
  refine ⟨⟨a0, a1, a2, a3, a4, a5, a6⟩, ⟨w0, w1, w6⟩, ?_, ?_⟩
  · have e : Enc.cells (⟨a0, a1, a2, a3, a4, a5, a6⟩ : EdgePat) = Enc.cells a0 ++ (Enc.cells a1 ++ (Enc.cells a2 ++ (Enc.cells a3 ++ (Enc.cells a4 ++ (Enc.cells a5 ++ (Enc.cells a6 ++ ([]))))))) := by
      rfl
    rw [e]
    exact CellsD.split (o := 0) (s := 1) c0 (CellsD.split (s := 1) c1 (CellsD.split (s := 1) c2 (CellsD.split (s := 1) c3 (CellsD.split (s := 1) c4 (CellsD.split (s := 1) c5 (CellsD.split (s := 1) c6 (CellsD.last (by rw [hl, show szT Tryz.prog 67 = 7 by kernel_rfl]; decide))))))))
  · have h5 := hb 7
    simp [List.range_succ, b0, b1, b2, b3, b4, b5, b6] at h5
    simp only [bulkG]
    omega
def W0P (x : PathPat) : Prop := Ws x.var ∧ WfL W0N x.nodes ∧ WfL W0G x.edges
def bulkP (x : PathPat) : Nat := bulkS x.var + bulkL bulkN x.nodes + bulkL bulkG x.edges + 1
theorem readsU_PathPat : ∀ n, ReadsU Tryz.prog n 70 PathPat W0P bulkP := by
  intro n H enc w held cs x hx
  obtain ⟨m, xs, rfl, hl, hb, hf⟩ := structU ⟨_, rfl⟩ hx
  obtain ⟨y0, b0, t0⟩ := hf 0 0 9 (by kernel_rfl)
  obtain ⟨y1, b1, t1⟩ := hf 1 1 65 (by kernel_rfl)
  obtain ⟨y2, b2, t2⟩ := hf 2 2 68 (by kernel_rfl)
  obtain ⟨a0, w0, c0, u0⟩ := (readsU_s _) enc w held _ _ t0
  obtain ⟨a1, w1, c1, u1⟩ := (readsU_list' (e := 64) (by kernel_rfl) (by kernel_rfl) (of_decide_eq_true (by kernel_rfl)) readsU_NodePat) enc w held _ _ t1
  obtain ⟨a2, w2, c2, u2⟩ := (readsU_list' (e := 67) (by kernel_rfl) (by kernel_rfl) (of_decide_eq_true (by kernel_rfl)) readsU_EdgePat) enc w held _ _ t2
  refine ⟨⟨a0, a1, a2⟩, ⟨w0, w1, w2⟩, ?_, ?_⟩
  · have e : Enc.cells (⟨a0, a1, a2⟩ : PathPat) = Enc.cells a0 ++ (Enc.cells a1 ++ (Enc.cells a2 ++ ([]))) := by
      rfl
    rw [e]
    exact CellsD.split (o := 0) (s := 1) c0 (CellsD.split (s := 1) c1 (CellsD.split (s := 1) c2 (CellsD.last (by rw [hl, show szT Tryz.prog 70 = 3 by kernel_rfl]; decide))))
  · have h5 := hb 3
    simp [List.range_succ, b0, b1, b2] at h5
    simp only [bulkP]
    omega
def W0I (x : Item) : Prop := WfE x.e ∧ Ws x.as_
def bulkI (x : Item) : Nat := bulkE x.e + bulkS x.as_ + 1
theorem readsU_Item : ∀ n, ReadsU Tryz.prog n 59 Item W0I bulkI := by
  intro n H enc w held cs x hx
  obtain ⟨m, xs, rfl, hl, hb, hf⟩ := structU ⟨_, rfl⟩ hx
  obtain ⟨y0, b0, t0⟩ := hf 0 0 42 (by kernel_rfl)
  obtain ⟨y1, b1, t1⟩ := hf 1 9 9 (by kernel_rfl)
  obtain ⟨a0, w0, c0, u0⟩ := (readsU_expr _) enc w held _ _ t0
  obtain ⟨a1, w1, c1, u1⟩ := (readsU_s _) enc w held _ _ t1
  refine ⟨⟨a0, a1⟩, ⟨w0, w1⟩, ?_, ?_⟩
  · have e : Enc.cells (⟨a0, a1⟩ : Item) = Enc.cells a0 ++ (Enc.cells a1 ++ ([])) := by
      rw [cells_expr a0]
      rfl
    rw [e]
    exact CellsD.split (o := 0) (s := 9) c0 (CellsD.split (s := 1) c1 (CellsD.last (by rw [hl, show szT Tryz.prog 59 = 10 by kernel_rfl]; decide)))
  · have h5 := hb 2
    simp [List.range_succ, b0, b1] at h5
    simp only [bulkI]
    omega
def W0S (x : SortK) : Prop := WfE x.e
def bulkT (x : SortK) : Nat := bulkE x.e + 1 + 1
theorem readsU_SortK : ∀ n, ReadsU Tryz.prog n 90 SortK W0S bulkT := by
  intro n H enc w held cs x hx
  obtain ⟨m, xs, rfl, hl, hb, hf⟩ := structU ⟨_, rfl⟩ hx
  obtain ⟨y0, b0, t0⟩ := hf 0 0 42 (by kernel_rfl)
  obtain ⟨y1, b1, t1⟩ := hf 1 9 4 (by kernel_rfl)
  obtain ⟨a0, w0, c0, u0⟩ := (readsU_expr _) enc w held _ _ t0
  obtain ⟨a1, w1, c1, u1⟩ := (readsU_one (readsAt_bool (by kernel_rfl))) enc w held _ _ t1
  have u1 : 1 ≤ Rows.uptoBulk y1.1 := u1
  refine ⟨⟨a0, a1⟩, w0, ?_, ?_⟩
  · have e : Enc.cells (⟨a0, a1⟩ : SortK) = Enc.cells a0 ++ (Enc.cells a1 ++ ([])) := by
      rw [cells_expr a0]
      rfl
    rw [e]
    exact CellsD.split (o := 0) (s := 9) c0 (CellsD.split (s := 1) c1 (CellsD.last (by rw [hl, show szT Tryz.prog 90 = 10 by kernel_rfl]; decide)))
  · have h5 := hb 2
    simp [List.range_succ, b0, b1] at h5
    simp only [bulkT]
    omega
def W0T (x : SetI) : Prop := Ws x.var ∧ Ws x.key ∧ Ws x.label ∧ WfE x.e
def bulkU (x : SetI) : Nat := bulkS x.var + bulkS x.key + bulkS x.label + 1 + bulkE x.e + 1
theorem readsU_SetI : ∀ n, ReadsU Tryz.prog n 92 SetI W0T bulkU := by
  intro n H enc w held cs x hx
  obtain ⟨m, xs, rfl, hl, hb, hf⟩ := structU ⟨_, rfl⟩ hx
  obtain ⟨y0, b0, t0⟩ := hf 0 0 9 (by kernel_rfl)
  obtain ⟨y1, b1, t1⟩ := hf 1 1 9 (by kernel_rfl)
  obtain ⟨y2, b2, t2⟩ := hf 2 2 9 (by kernel_rfl)
  obtain ⟨y3, b3, t3⟩ := hf 3 3 4 (by kernel_rfl)
  obtain ⟨y4, b4, t4⟩ := hf 4 4 42 (by kernel_rfl)
  obtain ⟨a0, w0, c0, u0⟩ := (readsU_s _) enc w held _ _ t0
  obtain ⟨a1, w1, c1, u1⟩ := (readsU_s _) enc w held _ _ t1
  obtain ⟨a2, w2, c2, u2⟩ := (readsU_s _) enc w held _ _ t2
  obtain ⟨a3, w3, c3, u3⟩ := (readsU_one (readsAt_bool (by kernel_rfl))) enc w held _ _ t3
  have u3 : 1 ≤ Rows.uptoBulk y3.1 := u3
  obtain ⟨a4, w4, c4, u4⟩ := (readsU_expr _) enc w held _ _ t4
  refine ⟨⟨a0, a1, a2, a3, a4⟩, ⟨w0, w1, w2, w4⟩, ?_, ?_⟩
  · have e : Enc.cells (⟨a0, a1, a2, a3, a4⟩ : SetI) = Enc.cells a0 ++ (Enc.cells a1 ++ (Enc.cells a2 ++ (Enc.cells a3 ++ (Enc.cells a4 ++ ([]))))) := by
      rw [cells_expr a4]
      rfl
    rw [e]
    exact CellsD.split (o := 0) (s := 1) c0 (CellsD.split (s := 1) c1 (CellsD.split (s := 1) c2 (CellsD.split (s := 1) c3 (CellsD.split (s := 9) c4 (CellsD.last (by rw [hl, show szT Tryz.prog 92 = 13 by kernel_rfl]; decide))))))
  · have h5 := hb 5
    simp [List.range_succ, b0, b1, b2, b3, b4] at h5
    simp only [bulkU]
    omega
def W0C (x : Clause) : Prop := WfL W0P x.paths ∧ WfL WfE x.wh ∧ WfE x.e ∧ Ws x.name ∧ WfL W0I x.items ∧ WfL W0S x.order ∧ WfL W0T x.sets ∧ WfL Ws x.names
def bulkC (x : Clause) : Nat := 1 + 1 + 1 + bulkL bulkP x.paths + bulkL bulkE x.wh + bulkE x.e + bulkS x.name + bulkL bulkI x.items + bulkL bulkT x.order + 1 + 1 + bulkL bulkU x.sets + bulkL bulkS x.names + 1
theorem readsU_Clause : ∀ n, ReadsU Tryz.prog n 57 Clause W0C bulkC := by
  intro n H enc w held cs x hx
  obtain ⟨m, xs, rfl, hl, hb, hf⟩ := structU ⟨_, rfl⟩ hx
  obtain ⟨y0, b0, t0⟩ := hf 0 0 3 (by kernel_rfl)
  obtain ⟨y1, b1, t1⟩ := hf 1 1 4 (by kernel_rfl)
  obtain ⟨y2, b2, t2⟩ := hf 2 2 4 (by kernel_rfl)
  obtain ⟨y3, b3, t3⟩ := hf 3 3 52 (by kernel_rfl)
  obtain ⟨y4, b4, t4⟩ := hf 4 4 40 (by kernel_rfl)
  obtain ⟨y5, b5, t5⟩ := hf 5 5 42 (by kernel_rfl)
  obtain ⟨y6, b6, t6⟩ := hf 6 14 9 (by kernel_rfl)
  obtain ⟨y7, b7, t7⟩ := hf 7 15 53 (by kernel_rfl)
  obtain ⟨y8, b8, t8⟩ := hf 8 16 54 (by kernel_rfl)
  obtain ⟨y9, b9, t9⟩ := hf 9 17 3 (by kernel_rfl)
  obtain ⟨y10, b10, t10⟩ := hf 10 18 3 (by kernel_rfl)
  obtain ⟨y11, b11, t11⟩ := hf 11 19 55 (by kernel_rfl)
  obtain ⟨y12, b12, t12⟩ := hf 12 20 33 (by kernel_rfl)
  obtain ⟨a0, w0, c0, u0⟩ := (readsU_one (readsAt_int (by kernel_rfl))) enc w held _ _ t0
  have u0 : 1 ≤ Rows.uptoBulk y0.1 := u0
  obtain ⟨a1, w1, c1, u1⟩ := (readsU_one (readsAt_bool (by kernel_rfl))) enc w held _ _ t1
  have u1 : 1 ≤ Rows.uptoBulk y1.1 := u1
  obtain ⟨a2, w2, c2, u2⟩ := (readsU_one (readsAt_bool (by kernel_rfl))) enc w held _ _ t2
  have u2 : 1 ≤ Rows.uptoBulk y2.1 := u2
  obtain ⟨a3, w3, c3, u3⟩ := (readsU_list' (e := 70) (by kernel_rfl) (by kernel_rfl) (of_decide_eq_true (by kernel_rfl)) readsU_PathPat) enc w held _ _ t3
  obtain ⟨a4, w4, c4, u4⟩ := (readsU_list' (e := 42) (by kernel_rfl) (by kernel_rfl) (of_decide_eq_true (by kernel_rfl)) readsU_expr) enc w held _ _ t4
  obtain ⟨a5, w5, c5, u5⟩ := (readsU_expr _) enc w held _ _ t5
  obtain ⟨a6, w6, c6, u6⟩ := (readsU_s _) enc w held _ _ t6
  obtain ⟨a7, w7, c7, u7⟩ := (readsU_list' (e := 59) (by kernel_rfl) (by kernel_rfl) (of_decide_eq_true (by kernel_rfl)) readsU_Item) enc w held _ _ t7
  obtain ⟨a8, w8, c8, u8⟩ := (readsU_list' (e := 90) (by kernel_rfl) (by kernel_rfl) (of_decide_eq_true (by kernel_rfl)) readsU_SortK) enc w held _ _ t8
  obtain ⟨a9, w9, c9, u9⟩ := (readsU_one (readsAt_int (by kernel_rfl))) enc w held _ _ t9
  have u9 : 1 ≤ Rows.uptoBulk y9.1 := u9
  obtain ⟨a10, w10, c10, u10⟩ := (readsU_one (readsAt_int (by kernel_rfl))) enc w held _ _ t10
  have u10 : 1 ≤ Rows.uptoBulk y10.1 := u10
  obtain ⟨a11, w11, c11, u11⟩ := (readsU_list' (e := 92) (by kernel_rfl) (by kernel_rfl) (of_decide_eq_true (by kernel_rfl)) readsU_SetI) enc w held _ _ t11
  obtain ⟨a12, w12, c12, u12⟩ := (readsU_list' (e := 9) (by kernel_rfl) (by kernel_rfl) (of_decide_eq_true (by kernel_rfl)) readsU_s) enc w held _ _ t12
  refine ⟨⟨a0, a1, a2, a3, a4, a5, a6, a7, a8, a9, a10, a11, a12⟩, ⟨w3, w4, w5, w6, w7, w8, w11, w12⟩, ?_, ?_⟩
  · have e : Enc.cells (⟨a0, a1, a2, a3, a4, a5, a6, a7, a8, a9, a10, a11, a12⟩ : Clause) = Enc.cells a0 ++ (Enc.cells a1 ++ (Enc.cells a2 ++ (Enc.cells a3 ++ (Enc.cells a4 ++ (Enc.cells a5 ++ (Enc.cells a6 ++ (Enc.cells a7 ++ (Enc.cells a8 ++ (Enc.cells a9 ++ (Enc.cells a10 ++ (Enc.cells a11 ++ (Enc.cells a12 ++ ([]))))))))))))) := by
      rw [cells_expr a5]
      rfl
    rw [e]
    exact CellsD.split (o := 0) (s := 1) c0 (CellsD.split (s := 1) c1 (CellsD.split (s := 1) c2 (CellsD.split (s := 1) c3 (CellsD.split (s := 1) c4 (CellsD.split (s := 9) c5 (CellsD.split (s := 1) c6 (CellsD.split (s := 1) c7 (CellsD.split (s := 1) c8 (CellsD.split (s := 1) c9 (CellsD.split (s := 1) c10 (CellsD.split (s := 1) c11 (CellsD.split (s := 1) c12 (CellsD.last (by rw [hl, show szT Tryz.prog 57 = 21 by kernel_rfl]; decide))))))))))))))
  · have h5 := hb 13
    simp [List.range_succ, b0, b1, b2, b3, b4, b5, b6, b7, b8, b9, b10, b11, b12] at h5
    simp only [bulkC]
    omega
def W0Y (x : Query) : Prop := WfL W0C x.clauses
def bulkY (x : Query) : Nat := bulkL bulkC x.clauses + 1
theorem readsU_Query : ∀ n, ReadsU Tryz.prog n 24 Query W0Y bulkY := by
  intro n H enc w held cs x hx
  obtain ⟨m, xs, rfl, hl, hb, hf⟩ := structU ⟨_, rfl⟩ hx
  obtain ⟨y0, b0, t0⟩ := hf 0 0 22 (by kernel_rfl)
  obtain ⟨a0, w0, c0, u0⟩ := (readsU_list' (e := 57) (by kernel_rfl) (by kernel_rfl) (of_decide_eq_true (by kernel_rfl)) readsU_Clause) enc w held _ _ t0
  refine ⟨⟨a0⟩, w0, ?_, ?_⟩
  · have e : Enc.cells (⟨a0⟩ : Query) = Enc.cells a0 ++ ([]) := by
      rfl
    rw [e]
    exact CellsD.split (o := 0) (s := 1) c0 (CellsD.last (by rw [hl, show szT Tryz.prog 24 = 1 by kernel_rfl]; decide))
  · have h5 := hb 1
    simp [List.range_succ, b0] at h5
    simp only [bulkY]
    omega
theorem sum_mem {α : Type} {b : α → Nat} {x : α} : ∀ {l : List α}, x ∈ l → b x ≤ (l.map b).sum
  | y :: r, h => by
    simp only [List.map_cons, List.sum_cons]
    rcases List.mem_cons.1 h with rfl | h
    · omega
    · have := sum_mem (b := b) h; omega
theorem sum_ge {α : Type} {b f : α → Nat} (h : ∀ x, f x ≤ b x) : ∀ l : List α, (l.map f).sum ≤ (l.map b).sum
  | [] => Nat.le_refl _
  | y :: r => by
    have := sum_ge h r
    have := h y
    simp only [List.map_cons, List.sum_cons]
    omega
theorem len_sum {α : Type} {b : α → Nat} (h : ∀ x, 1 ≤ b x) : ∀ l : List α, l.length ≤ (l.map b).sum
  | [] => Nat.le_refl _
  | y :: r => by
    have := len_sum h r
    have := h y
    simp only [List.map_cons, List.sum_cons, List.length_cons]
    omega
theorem wfN_of {x : NodePat} (h : W0N x) (hb : bulkN x ≤ 1048576) : WfN x := by
  obtain ⟨h1, ⟨h2, h3⟩, h4, h5⟩ := h
  refine ⟨h1, ⟨h2, h3⟩, ?_, h5⟩
  have := len_sum (b := bulkQ) (fun x => by unfold bulkQ; omega) x.props
  unfold bulkN bulkL at hb
  omega
theorem wfG_of {x : EdgePat} (h : W0G x) (hb : bulkG x ≤ 1048576) : WfG x := by
  obtain ⟨h1, ⟨h2, h3⟩, h4, h5⟩ := h
  refine ⟨h1, ⟨h2, h3⟩, ?_, h5⟩
  have := len_sum (b := bulkQ) (fun x => by unfold bulkQ; omega) x.props
  unfold bulkG bulkL at hb
  show x.props.length ≤ 1048576
  omega
theorem wfPS_of {p : PathPat} (h : W0P p) (hb : bulkP p ≤ 1048576) : WfPS p := by
  obtain ⟨h1, ⟨h2, h3⟩, h4, h5⟩ := h
  have n1 := len_sum (b := bulkN) (fun x => by unfold bulkN; omega) p.nodes
  have n2 : nsum p.nodes ≤ (p.nodes.map bulkN).sum := sum_ge (fun x => by
    have := len_sum (b := bulkQ) (fun x => by unfold bulkQ; omega) x.props
    unfold bulkN bulkL
    omega) _
  have n3 : esum p.edges ≤ (p.edges.map bulkG).sum := sum_ge (fun x => by
    have := len_sum (b := bulkQ) (fun x => by unfold bulkQ; omega) x.props
    unfold bulkG bulkL
    omega) _
  unfold bulkP bulkL at hb
  refine ⟨⟨h1, ⟨by omega, fun n hn => wfN_of (h3 n hn) ?_⟩, h4, fun e he => wfG_of (h5 e he) ?_⟩, by omega⟩
  · have := sum_mem (b := bulkN) hn; omega
  · have := sum_mem (b := bulkG) he; omega
theorem wfCS_of {c : Clause} (h : W0C c) (hb : bulkC c ≤ 1048576) : WfCS c := by
  obtain ⟨⟨h1, h2⟩, ⟨h3, h4⟩, h5, h6, ⟨h7, h8⟩, ⟨h9, h10⟩, ⟨h11, h12⟩, h13, h14⟩ := h
  have hp : ∀ p ∈ c.paths, WfPS p := fun p hp => wfPS_of (h2 p hp) (by
    have := sum_mem (b := bulkP) hp
    unfold bulkC bulkL at hb
    omega)
  exact ⟨⟨⟨h1, fun p h => (hp p h).1⟩, ⟨h3, h4⟩, h5, ⟨h7, fun i hi => (h8 i hi).1⟩, ⟨h9, fun i hi => h10 i hi⟩, ⟨h11, fun i hi => (h12 i hi).2.2.2⟩, h13⟩, hp⟩
theorem wfQS_of {q : Query} (h : W0Y q) (hb : bulkY q ≤ 1048576) : WfQS q ∧ q.clauses.length ≤ 1048576 := by
  obtain ⟨h1, h2⟩ := h
  have n1 := len_sum (b := bulkC) (fun x => by unfold bulkC; omega) q.clauses
  unfold bulkY bulkL at hb
  refine ⟨⟨h1, fun c hc => wfCS_of (h2 c hc) ?_⟩, by omega⟩
  have := sum_mem (b := bulkC) hc
  omega
end Go.Proofs.YtgjljfbohpnfcaaGreat


namespace Go.Proofs.YtgjljfbohpnfcaaGreat
open Go.RowKit
set_option linter.unusedSimpArgs false
set_option linter.unusedVariables false
mutual
theorem names_bulk : ∀ e : Expr, (namesE e).length ≤ bulkE e
  | .mk o v n d k => by
    have h := names_bulks k
    rw [namesE, List.length_append]
    simp only [bulkE]
    split <;> simp <;> omega
theorem names_bulks : ∀ l : List Expr, (namesL l).length ≤ bulkEs l
  | [] => by rw [namesL]; exact Nat.zero_le _
  | e :: r => by
    have h1 := names_bulk e
    have h2 := names_bulks r
    rw [namesL, List.length_append, bulkEs]
    omega
end
theorem goodE_of {e : Expr} {B : Nat} (hw : WfE e) (h : bulkE e ≤ B) (hB : B ≤ 1000000000) : GoodE e := ⟨hw, by have := names_bulk e; exact ⟨by omega, by omega⟩⟩
theorem goodPr_of {l : List PropPat} {B : Nat} (hw : WfL WfQ l) (h : bulkL bulkQ l ≤ B) (hB : B ≤ 1000000000) : GoodPr l :=
  ⟨hw.1, fun p hp => by
    have h1 := sum_mem (b := bulkQ) hp
    unfold bulkL at h
    unfold bulkQ at h1
    exact goodE_of (hw.2 p hp).2 (Nat.le_refl _) (by unfold bulkQ at h; omega)⟩
theorem goodP_of {p : PathPat} {B : Nat} (hw : W0P p) (h : bulkP p ≤ B) (hB : B ≤ 1000000000) : GoodP p := by
  obtain ⟨_, ⟨h1, h2⟩, h3, h4⟩ := hw
  unfold bulkP bulkL at h
  refine ⟨⟨h1, fun n hn => ?_⟩, h3, fun x hx => ?_⟩
  · have q := sum_mem (b := bulkN) hn
    exact goodPr_of (h2 n hn).2.2 (B := bulkN n) (by unfold bulkN; omega) (by omega)
  · have q := sum_mem (b := bulkG) hx
    exact goodPr_of (h4 x hx).2.2 (B := bulkG x) (by unfold bulkG; omega) (by omega)
theorem goodC_of {c : Clause} {B : Nat} (hw : W0C c) (h : bulkC c ≤ B) (hB : B ≤ 1000000000) : GoodC c := by
  obtain ⟨⟨h1, h2⟩, ⟨h3, h4⟩, h5, h6, ⟨h7, h8⟩, ⟨h9, h10⟩, ⟨h11, h12⟩, h13, h14⟩ := hw
  unfold bulkC bulkL at h
  refine ⟨⟨h1, fun p hp => ?_⟩, ⟨h3, fun e he => ?_⟩, goodE_of h5 (Nat.le_refl _) (by omega), ⟨h7, fun i hi => ?_⟩, ⟨h9, fun i hi => ?_⟩, ⟨h11, fun i hi => ?_⟩, h13⟩
  · have q := sum_mem (b := bulkP) hp
    exact goodP_of (h2 p hp) (Nat.le_refl _) (by omega)
  · have q := sum_mem (b := bulkE) he
    exact goodE_of (h4 e he) (Nat.le_refl _) (by omega)
  · have q := sum_mem (b := bulkI) hi
    exact goodE_of (h8 i hi).1 (B := bulkI i) (by unfold bulkI; omega) (by omega)
  · have q := sum_mem (b := bulkT) hi
    exact goodE_of (h10 i hi) (B := bulkT i) (by unfold bulkT; omega) (by omega)
  · have q := sum_mem (b := bulkU) hi
    exact goodE_of (h12 i hi).2.2.2 (B := bulkU i) (by unfold bulkU; omega) (by omega)
theorem goodQ_of {q : Query} (hw : W0Y q) (h : bulkY q ≤ 1048576) : WfQS q ∧ GoodQ q := by
  obtain ⟨hs, hl⟩ := wfQS_of hw h
  refine ⟨hs, ⟨hs.1, fun c hc => (hs.2 c hc).1⟩, fun c hc => ?_⟩
  have q := sum_mem (b := bulkC) hc
  unfold bulkY bulkL at h
  exact goodC_of (hw.2 c hc) (Nat.le_refl _) (by omega)
theorem goodU_of {e : Expr} (hw : WfE e) (h : bulkE e ≤ 1048576) : WfE e ∧ (namesE e).length ≤ 1000000000 := ⟨hw, by have := names_bulk e; omega⟩
end Go.Proofs.YtgjljfbohpnfcaaGreat


namespace Go.Proofs.YtgjljfbohpnfcaaGreat
open Go.RowKit
theorem hasMax_of {w : World} (h : w.ShapedOpen Tryz.prog) : HasMax w :=
  Go.Proofs.cell_of_shapedOpen_int (g := 0) (zero := #[.int .i64 0]) (t := 3) h (of_decide_eq_true (by kernel_rfl)) (by kernel_rfl) rfl (by kernel_rfl) (by kernel_rfl) Tryz.underlying3
end Go.Proofs.YtgjljfbohpnfcaaGreat


namespace Go.Proofs.YtgjljfbohpnfcaaGreat
open Go.RowKit
set_option linter.unusedSimpArgs false
set_option linter.unusedVariables false
set_option maxRecDepth 100000
section
variable {m : Int}
def sWd : List AV → Option (Prop × AV) := spec1 (fun (_ : ByteArray) => True) (fun s => .bool (wordB s))
noncomputable def CWr (m : Int) : Ctx := mkC Tryz.prog (G m) [(96, .pure sWd)]
@[simp] theorem CWr_P (m : Int) : (CWr m).P = Tryz.prog := rfl
@[simp] theorem CWr_1 (m : Int) : (CWr m).S 96 = .pure sWd := rfl
theorem mixCWr (m : Int) : (CWr m).P.follows .mixedOrders = true := mixed
theorem sigCWr (m : Int) : SigOK (CWr m) := sigOK_cons (entryPure wordR Tryz.func96 rfl (by decide)) (sigOK_nil _ _)
def sFree : List AV → Option (Prop × AV) := spec1 (fun (_ : ByteArray) => True) (fun s => .bool (freeB s))
theorem freeR : PureOK Tryz.prog (G m) 142 sFree := by
  refine pure1 (C := CWr m) (sigCWr m) (mixCWr m) Tryz.func142 rfl rfl rfl (by kernel_rfl) (by decide) (fun s _ => ?_)
  rcases em2 (s = ⟨#[]⟩) with h | h <;> simp [sWd, freeB, h]
set_option maxHeartbeats 4000000 in
theorem wsR : PureOK Tryz.prog (G m) 98 sWs := by
  refine pure1 (C := CWr m) (sigCWr m) (mixCWr m) Tryz.func98 rfl rfl rfl (by kernel_rfl) (by decide) (fun l hl => ?_)
  have hl' := maxLen_le hl
  obtain ⟨R, hR⟩ : ∃ R, R = l.all wordB := ⟨_, rfl⟩
  rw [← hR]
  simp
  refine loop_rule (C := CWr m) (sigCWr m) (mixCWr m) (fun i : Nat => ⟨[(0, Enc.enc l), (3, .int .i64 i)], []⟩) (fun i => i ≤ l.length ∧ (l.drop i).all wordB = R) (fun i => l.length - i) (by kernel_rfl) ⟨0, ⟨by omega, by rw [hR]; rfl⟩, weak_slots (by simp)⟩ (fun i ⟨hi, hs⟩ => ?_)
  by_cases hlt : i < l.length
  · have i1 : I64 ((i : Int) + 1) := by unfold I64; omega
    rw [all_drop hlt] at hs
    cases h3 : wordB (ix l i)
    · rw [h3, Bool.false_and] at hs
      simp [hlt, rowAt_enc hlt, sWd, h3, ← hs]
    · rw [h3, Bool.true_and] at hs
      simp [hlt, rowAt_enc hlt, sWd, h3, i1]
      exact ⟨i + 1, ⟨by omega, hs⟩, by omega, weak_slots (by simp)⟩
  · rw [List.drop_eq_nil_of_le (by omega), List.all_nil] at hs
    simp [hlt, ← hs]
set_option maxHeartbeats 4000000 in
theorem risesR : PureOK Tryz.prog (G m) 145 sRs := by
  refine pure1 (C := CE m) (sigCE m) (mixCE m) Tryz.func145 rfl rfl rfl (by kernel_rfl) (by decide) (fun l hl => ?_)
  have hl' := maxLen_le hl
  simp
  refine loop_rule (C := CE m) (sigCE m) (mixCE m) (fun i : Nat => ⟨[(0, Enc.enc l), (3, .int .i64 ((i : Int) + 1))], []⟩) (fun i => i ≤ l.length ∧ ∀ j, j < i → Op.bytesLess (ix l j).toList (ix l (j + 1)).toList = true) (fun i => l.length - i) (by kernel_rfl) ⟨0, by simp, weak_slots (by simp)⟩ (fun i ⟨hi, hs⟩ => ?_)
  by_cases hlt : i + 1 < l.length
  · have i0 : I64 (i : Int) := by unfold I64; omega
    have i1 : I64 ((i : Int) + 1) := by unfold I64; omega
    have i2 : I64 ((i : Int) + 1 + 1) := by unfold I64; omega
    have h1 : (i : Int) + 1 < l.length := by omega
    have h2 : i < l.length := by omega
    have e1 : ((i : Int) + 1).toNat = i + 1 := by omega
    cases h3 : Op.bytesLess (ix l i).toList (ix l (i + 1)).toList
    · have hB : risesB l = false := by
        unfold risesB
        rw [decide_eq_false_iff_not]
        intro h
        rw [h i (by omega)] at h3
        cases h3
      simp [h1, h2, hlt, e1, rowAt_enc h2, rowAt_enc hlt, i0, i1, i2, h3, hB]
      omega
    · simp [h1, h2, hlt, e1, rowAt_enc h2, rowAt_enc hlt, i0, i1, i2, h3]
      refine ⟨by omega, i + 1, ⟨by omega, fun j hj => ?_⟩, by omega, weak_slots (by simp)⟩
      rcases Nat.lt_or_eq_of_le (Nat.le_of_lt_succ hj) with h | rfl
      · exact hs j h
      · exact h3
  · have h1 : ¬ (i : Int) + 1 < l.length := by omega
    have hB : risesB l = true := by
      unfold risesB
      rw [decide_eq_true_eq]
      exact fun j hj => hs j (by omega)
    simp [h1, hB]
set_option maxHeartbeats 4000000 in
theorem keysR : PureOK Tryz.prog (G m) 144 sKs := by
  refine pure1 (C := CE m) (sigCE m) (mixCE m) Tryz.func144 rfl rfl rfl (by kernel_rfl) (by decide) (fun l hl => ?_)
  simp
  refine loop_rule (C := CE m) (sigCE m) (mixCE m) (fun i : Nat => ⟨[(0, Enc.enc l), (3, .own 0 (keysL (l.take i)).length), (4, .int .i64 i)], [⟨9, 1, encRows (keysL (l.take i)), true, true⟩]⟩) (fun i => i ≤ l.length) (fun i => l.length - i) (by kernel_rfl) ⟨0, by simp, (weak_nil 3 1 9 (by simp) (by decide)).trans (weak_slots (by simp [keysL]))⟩ (fun i hi => ?_)
  by_cases hlt : i < l.length
  · have i1 : I64 ((i : Int) + 1) := by unfold I64; omega
    have hk : (keysL (l.take i)).length = i := by simp [keysL]; omega
    simp [hlt, rowAt_enc hlt, i1, hk]
    refine ⟨⟨by omega, by omega⟩, i + 1, by omega, by omega, ?_⟩
    rw [keysL_take hlt]
    exact weak_keep 1 (by simp [hk]) (by simp) (by simp [AV.clean, AV.clean1]) (by simp) (by simp [encRows])
  · have e : l.take i = l := List.take_of_length_le (by omega)
    simp [hlt, e]
set_option maxHeartbeats 8000000 in
theorem boundsR : PureOK Tryz.prog (G m) 143 sHop := by
  refine pure1 (C := CE m) (sigCE m) (mixCE m) Tryz.func143 rfl rfl rfl (by kernel_rfl) (by decide) (fun e _ => ?_)
  by_cases hd : ¬ e.dir = 1 ∧ ¬ e.dir = 2 ∧ ¬ e.dir = 3
  · have hB : hopB e = false := by simp only [hopB, Bool.and_eq_false_iff, decide_eq_false_iff_not]; left; omega
    obtain ⟨d1, d2, d3⟩ := hd
    simp [d1, d2, d3, hB]
  have hd' : e.dir = 1 ∨ e.dir = 2 ∨ e.dir = 3 := by omega
  rcases hd' with d | d | d
  · have d1 : (e.dir = 1) = (1 = (1 : Nat)) := by rw [d]; simp
    have d2 : (e.dir = 2) = (1 = (2 : Nat)) := by rw [d]; simp
    have d3 : (e.dir = 3) = (1 = (3 : Nat)) := by rw [d]; simp
    simp only [Nat.reduceEqDiff] at d1 d2 d3
    by_cases h3 : e.mode < 0
    · have hB : hopB e = false := by simp only [hopB, Bool.and_eq_false_iff, decide_eq_false_iff_not]; left; omega
      simp [d1, d2, d3, h3, hB]
    by_cases h4 : 5 < e.mode
    · have hB : hopB e = false := by simp only [hopB, Bool.and_eq_false_iff, decide_eq_false_iff_not]; left; omega
      simp [d1, d2, d3, h3, h4, hB]
    have hd : decide (1 ≤ e.dir ∧ e.dir ≤ 3 ∧ 0 ≤ e.mode ∧ e.mode ≤ 5) = true := by rw [decide_eq_true_eq]; omega
    rcases em2 (e.mode = 0) with h5 | h5
    · have hB : hopB e = decide (e.lo = 0 ∧ e.hi = 0) := by unfold hopB; rw [hd, if_pos (of_eq_true h5)]; simp
      rcases em2 (e.lo = 0) with h6 | h6 <;> rcases em2 (e.hi = 0) with h7 | h7 <;> simp [d1, d2, d3, h3, h4, h5, h6, h7, hB]
    · have hB : hopB e = (decide (0 ≤ e.lo ∧ e.lo ≤ e.hi ∧ 1 ≤ e.hi ∧ e.hi ≤ 6) && decide (e.props = [])) := by unfold hopB; rw [hd, if_neg (of_eq_false h5)]; simp
      by_cases h6 : 0 ≤ e.lo
      case neg => simp [d1, d2, d3, h3, h4, h5, h6, hB]
      by_cases h7 : e.lo ≤ e.hi
      case neg => simp [d1, d2, d3, h3, h4, h5, h6, h7, hB]
      by_cases h8 : 1 ≤ e.hi
      case neg => simp [d1, d2, d3, h3, h4, h5, h6, h7, h8, hB]
      by_cases h9 : e.hi ≤ 6
      case neg => simp [d1, d2, d3, h3, h4, h5, h6, h7, h8, h9, hB]
      rcases em2 (e.props = []) with h10 | h10 <;> simp [d1, d2, d3, h3, h4, h5, h6, h7, h8, h9, h10, hB]
  · have d1 : (e.dir = 1) = (2 = (1 : Nat)) := by rw [d]; simp
    have d2 : (e.dir = 2) = (2 = (2 : Nat)) := by rw [d]; simp
    have d3 : (e.dir = 3) = (2 = (3 : Nat)) := by rw [d]; simp
    simp only [Nat.reduceEqDiff] at d1 d2 d3
    by_cases h3 : e.mode < 0
    · have hB : hopB e = false := by simp only [hopB, Bool.and_eq_false_iff, decide_eq_false_iff_not]; left; omega
      simp [d1, d2, d3, h3, hB]
    by_cases h4 : 5 < e.mode
    · have hB : hopB e = false := by simp only [hopB, Bool.and_eq_false_iff, decide_eq_false_iff_not]; left; omega
      simp [d1, d2, d3, h3, h4, hB]
    have hd : decide (1 ≤ e.dir ∧ e.dir ≤ 3 ∧ 0 ≤ e.mode ∧ e.mode ≤ 5) = true := by rw [decide_eq_true_eq]; omega
    rcases em2 (e.mode = 0) with h5 | h5
    · have hB : hopB e = decide (e.lo = 0 ∧ e.hi = 0) := by unfold hopB; rw [hd, if_pos (of_eq_true h5)]; simp
      rcases em2 (e.lo = 0) with h6 | h6 <;> rcases em2 (e.hi = 0) with h7 | h7 <;> simp [d1, d2, d3, h3, h4, h5, h6, h7, hB]
    · have hB : hopB e = (decide (0 ≤ e.lo ∧ e.lo ≤ e.hi ∧ 1 ≤ e.hi ∧ e.hi ≤ 6) && decide (e.props = [])) := by unfold hopB; rw [hd, if_neg (of_eq_false h5)]; simp
      by_cases h6 : 0 ≤ e.lo
      case neg => simp [d1, d2, d3, h3, h4, h5, h6, hB]
      by_cases h7 : e.lo ≤ e.hi
      case neg => simp [d1, d2, d3, h3, h4, h5, h6, h7, hB]
      by_cases h8 : 1 ≤ e.hi
      case neg => simp [d1, d2, d3, h3, h4, h5, h6, h7, h8, hB]
      by_cases h9 : e.hi ≤ 6
      case neg => simp [d1, d2, d3, h3, h4, h5, h6, h7, h8, h9, hB]
      rcases em2 (e.props = []) with h10 | h10 <;> simp [d1, d2, d3, h3, h4, h5, h6, h7, h8, h9, h10, hB]
  · have d1 : (e.dir = 1) = (3 = (1 : Nat)) := by rw [d]; simp
    have d2 : (e.dir = 2) = (3 = (2 : Nat)) := by rw [d]; simp
    have d3 : (e.dir = 3) = (3 = (3 : Nat)) := by rw [d]; simp
    simp only [Nat.reduceEqDiff] at d1 d2 d3
    by_cases h3 : e.mode < 0
    · have hB : hopB e = false := by simp only [hopB, Bool.and_eq_false_iff, decide_eq_false_iff_not]; left; omega
      simp [d1, d2, d3, h3, hB]
    by_cases h4 : 5 < e.mode
    · have hB : hopB e = false := by simp only [hopB, Bool.and_eq_false_iff, decide_eq_false_iff_not]; left; omega
      simp [d1, d2, d3, h3, h4, hB]
    have hd : decide (1 ≤ e.dir ∧ e.dir ≤ 3 ∧ 0 ≤ e.mode ∧ e.mode ≤ 5) = true := by rw [decide_eq_true_eq]; omega
    rcases em2 (e.mode = 0) with h5 | h5
    · have hB : hopB e = decide (e.lo = 0 ∧ e.hi = 0) := by unfold hopB; rw [hd, if_pos (of_eq_true h5)]; simp
      rcases em2 (e.lo = 0) with h6 | h6 <;> rcases em2 (e.hi = 0) with h7 | h7 <;> simp [d1, d2, d3, h3, h4, h5, h6, h7, hB]
    · have hB : hopB e = (decide (0 ≤ e.lo ∧ e.lo ≤ e.hi ∧ 1 ≤ e.hi ∧ e.hi ≤ 6) && decide (e.props = [])) := by unfold hopB; rw [hd, if_neg (of_eq_false h5)]; simp
      by_cases h6 : 0 ≤ e.lo
      case neg => simp [d1, d2, d3, h3, h4, h5, h6, hB]
      by_cases h7 : e.lo ≤ e.hi
      case neg => simp [d1, d2, d3, h3, h4, h5, h6, h7, hB]
      by_cases h8 : 1 ≤ e.hi
      case neg => simp [d1, d2, d3, h3, h4, h5, h6, h7, h8, hB]
      by_cases h9 : e.hi ≤ 6
      case neg => simp [d1, d2, d3, h3, h4, h5, h6, h7, h8, h9, hB]
      rcases em2 (e.props = []) with h10 | h10 <;> simp [d1, d2, d3, h3, h4, h5, h6, h7, h8, h9, h10, hB]
def sHp : List AV → Option (Prop × AV) := spec1 (fun (p : PathPat) => p.edges.length ≤ maxLen) (fun p => .bool (!longB p))
set_option maxHeartbeats 4000000 in
theorem hopsR : PureOK Tryz.prog (G m) 141 sHp := by
  refine pure1 (C := CE m) (sigCE m) (mixCE m) Tryz.func141 rfl rfl rfl (by kernel_rfl) (by decide) (fun p hl => ?_)
  have hl' := maxLen_le hl
  rcases em2 (p.nodes = []) with h1 | h1
  · simp [longB, h1]
  by_cases h2 : 6 < p.edges.length
  · have h2' : (6 : Int) < p.edges.length := by omega
    simp [longB, h1, h2, h2']
  have h2' : ¬ (6 : Int) < p.edges.length := by omega
  have hB : longB p = decide (12 < hopL 0 p.edges) := by unfold longB; rw [decide_eq_false (of_eq_false h1), decide_eq_false h2]; simp
  rw [hB]
  simp [h1, h2, h2']
  refine loop_rule (C := CE m) (sigCE m) (mixCE m) (fun q : Nat × Int => ⟨[(1, .ptr 0 1 3 0 0), (3, .int .i64 q.2), (4, .int .i64 q.1)], [PB p]⟩) (fun q => q.1 ≤ p.edges.length ∧ 0 ≤ q.2 ∧ q.2 ≤ 13 * q.1 ∧ hopL q.2 (p.edges.drop q.1) = hopL 0 p.edges) (fun q => p.edges.length - q.1) (by kernel_rfl) ⟨(0, 0), by simp, weak_slots (by simp)⟩ (fun ⟨i, a⟩ ⟨hi, ha, hb, hs⟩ => ?_)
  simp only at hi ha hb hs ⊢
  by_cases hlt : i < p.edges.length
  · have i1 : I64 ((i : Int) + 1) := by unfold I64; omega
    have hn := hopN_in (ix p.edges i)
    rw [hopL_drop hlt] at hs
    rcases em2 ((ix p.edges i).mode = 0) with h3 | h3
    · have i2 : I64 (a + 1) := by unfold I64; omega
      have hN : hopN (ix p.edges i) = 1 := by simp [hopN, h3]
      rw [hN] at hs
      simp [PB, hlt, rowAt_enc hlt, i1, i2, h3]
      exact ⟨i + 1, a + 1, ⟨by omega, by omega, by omega, hs⟩, by omega, weak_slots (by simp)⟩
    · have hN : hopN (ix p.edges i) = min (max (ix p.edges i).hi 0) 13 := by unfold hopN; rw [if_neg (of_eq_false h3)]
      by_cases h4 : 12 < (ix p.edges i).hi
      · have h5 := hopL_ge (p.edges.drop (i + 1)) (a + hopN (ix p.edges i))
        have h6 : (12 < hopL 0 p.edges) = True := eq_true (by omega)
        have h7 : ¬ hopL 0 p.edges ≤ 12 := by omega
        simp [PB, hlt, rowAt_enc hlt, i1, h3, h4, h6, h7]
      · by_cases h5 : 0 < (ix p.edges i).hi
        · have i2 : I64 (a + (ix p.edges i).hi) := by unfold I64; omega
          rw [show hopN (ix p.edges i) = (ix p.edges i).hi by omega] at hs
          simp [PB, hlt, rowAt_enc hlt, i1, i2, h3, h4, h5]
          exact ⟨i + 1, a + (ix p.edges i).hi, ⟨by omega, by omega, by omega, hs⟩, by omega, weak_slots (by simp)⟩
        · rw [show a + hopN (ix p.edges i) = a by omega] at hs
          simp [PB, hlt, rowAt_enc hlt, i1, h3, h4, h5]
          exact ⟨i + 1, a, ⟨by omega, by omega, by omega, hs⟩, by omega, weak_slots (by simp)⟩
  · rw [List.drop_eq_nil_of_le (by omega), hopL] at hs
    by_cases h4 : a ≤ 12
    · have h5 : ¬ 12 < a := by omega
      simp [PB, hlt, ← hs, h4, h5]
    · have h5 : 12 < a := by omega
      simp [PB, hlt, ← hs, h4, h5]
set_option maxHeartbeats 4000000 in
theorem noneR : PureOK Tryz.prog (G m) 93 sZE := by
  have sig : SigOK (mkC Tryz.prog (G m) [(122, .pure sZ)]) := sigOK_cons (entryPure zeroR Tryz.func122 rfl (by decide)) (sigOK_nil _ _)
  refine pure1 (C := mkC Tryz.prog (G m) [(122, .pure sZ)]) sig mixed Tryz.func93 rfl rfl rfl (by kernel_rfl) (by decide) (fun e _ => ?_)
  rcases em2 (e.op = 0) with h1 | h1
  case inr => simp [zeroE, h1]
  cases h2 : zeroV e.v
  case false => simp [zeroE, sZ, h1, h2]
  rcases em2 (e.name = ⟨#[]⟩) with h3 | h3
  case inr => simp [zeroE, sZ, h1, h2, h3]
  cases h4 : e.dist
  case true => simp [zeroE, sZ, h1, h2, h3, h4, eta_d h4]
  rcases em2 (e.kids = []) with h5 | h5 <;> simp [zeroE, sZ, h1, h2, h3, h4, eta_d h4, h5]
noncomputable def CSr (m : Int) : Ctx := mkC Tryz.prog (G m) [(93, .pure sZE), (96, .pure sWd), (95, .pure sChk)]
@[simp] theorem CSr_P (m : Int) : (CSr m).P = Tryz.prog := rfl
@[simp] theorem CSr_1 (m : Int) : (CSr m).S 93 = .pure sZE := rfl
@[simp] theorem CSr_2 (m : Int) : (CSr m).S 96 = .pure sWd := rfl
@[simp] theorem CSr_3 (m : Int) : (CSr m).S 95 = .pure sChk := rfl
theorem mixCSr (m : Int) : (CSr m).P.follows .mixedOrders = true := mixed
theorem sigCSr (m : Int) : SigOK (CSr m) := sigOK_cons (entryPure noneR Tryz.func93 rfl (by decide)) (sigOK_cons (entryPure wordR Tryz.func96 rfl (by decide)) (sigOK_cons (entryPure checkR Tryz.func95 rfl (by decide)) (sigOK_nil _ _)))
set_option maxHeartbeats 8000000 in
theorem setR : PureOK Tryz.prog (G m) 97 sSetE := by
  refine pure1 (C := CSr m) (sigCSr m) (mixCSr m) Tryz.func97 rfl rfl rfl (by kernel_rfl) (by decide) (fun s hw => ?_)
  rcases em2 (s.label = ⟨#[]⟩) with h1 | h1
  · cases h2 : s.off
    case true => simp [setE, sZE, h1, h2]
    cases h3 : wordB s.var
    case false => simp [setE, sZE, sWd, h1, h2, h3]
    cases h4 : wordB s.key <;> simp [setE, sZE, sWd, sChk, h1, h2, h3, h4, hw]
  · rcases em2 (s.key = ⟨#[]⟩) with h2 | h2
    case inr => simp [setE, sZE, h1, h2]
    cases h3 : zeroE s.e
    case false => simp [setE, sZE, h1, h2, h3]
    cases h4 : wordB s.var
    case false => simp [setE, sZE, sWd, h1, h2, h3, h4]
    cases h5 : wordB s.label <;> simp [setE, sZE, sWd, sChk, h1, h2, h3, h4, h5]
end
end Go.Proofs.YtgjljfbohpnfcaaGreat


namespace Go.Proofs.YtgjljfbohpnfcaaGreat
open Go.RowKit
set_option linter.unusedSimpArgs false
set_option linter.unusedVariables false
set_option maxRecDepth 100000
def oN (x : NodePat) : Bool := freeB x.var && (x.labels.all wordB && (keysL x.props).all wordB)
def uN (x : NodePat) : Bool := risesB x.labels && risesB (keysL x.props)
def oG (x : EdgePat) : Bool := freeB x.var && (x.types.all wordB && (keysL x.props).all wordB)
def uG (x : EdgePat) : Bool := risesB x.types && risesB (keysL x.props)
theorem parts_all {f : NodePat → Bool} : ∀ (ns : List NodePat) (es : List EdgePat), es.length ≤ ns.length → (partsL ns es).all f = (ns.all f && es.all fun e => f (edgeN e))
  | [], [], _ => rfl
  | [], e :: es, h => by simp at h
  | n :: ns, [], h => by
    have := parts_all (f := f) ns [] (by simp)
    simp only [partsL, List.all_cons, List.all_nil, Bool.and_true] at this ⊢
    rw [this]
  | n :: ns, e :: es, h => by
    have := parts_all (f := f) ns es (by simpa using h)
    simp only [partsL, List.all_cons] at this ⊢
    rw [this]
    cases f n <;> cases f (edgeN e) <;> cases ns.all f <;> simp
def errX : List Expr → Int
  | [] => 0
  | e :: r => if checkE e ≠ 0 then checkE e else errX r
theorem errX_append : ∀ a b : List Expr, errX (a ++ b) = if errX a ≠ 0 then errX a else errX b
  | [], b => by simp [errX]
  | e :: r, b => by
    rw [List.cons_append, errX, errX]
    by_cases h : checkE e = 0
    · rw [if_neg (by simp [h]), errX_append r b]; simp only [ne_eq, h, not_true_eq_false, if_false]
    · rw [if_pos h, if_pos h, if_pos h]
theorem errQ_X : ∀ l : List PropPat, errQ l = errX (l.map (·.e))
  | [] => rfl
  | q :: r => by rw [errQ, List.map_cons, errX, errQ_X r]
theorem errPs_X : ∀ l : List NodePat, errPs l = errX (exprsL l)
  | [] => rfl
  | x :: r => by
    have e : exprsL (x :: r) = x.props.map (·.e) ++ exprsL r := rfl
    rw [errPs, e, errX_append, errPs_X r, errQ_X]
theorem aggPs_X : ∀ l : List NodePat, aggPs l = (exprsL l).any aggE
  | [] => rfl
  | x :: r => by
    have e : exprsL (x :: r) = x.props.map (·.e) ++ exprsL r := rfl
    have h := aggPs_X r
    unfold aggPs at h ⊢
    rw [List.any_cons, h, e, List.any_append]
    congr 1
    unfold aggQ
    rw [List.any_map]
    rfl
theorem errX_drop {l : List Expr} {i : Nat} (h : i < l.length) : errX (l.drop i) = if checkE (ix l i) ≠ 0 then checkE (ix l i) else errX (l.drop (i + 1)) := by
  rw [List.drop_eq_getElem_cons h, errX, ix_lt h]
def shapeE (p : PathPat) : Int :=
  if longB p = true then 4 else if ¬ p.nodes.length = p.edges.length + 1 then 1 else if p.edges.all hopB = false then 1
  else if (freeB p.var && (p.edges.all oG && p.nodes.all oN)) = false then 6 else if (p.edges.all uG && p.nodes.all uN) = false then 26 else 0
theorem pathE_shape (p : PathPat) (c : Bool) : pathE p c = if shapeE p ≠ 0 then shapeE p else if errX (exprsL (partsL p.nodes p.edges)) ≠ 0 then errX (exprsL (partsL p.nodes p.edges)) else if (exprsL (partsL p.nodes p.edges)).any aggE = true then 9 else if c = true ∧ p.edges.all creB = false then 1 else 0 := by
  unfold pathE shapeE
  rw [← errPs_X, ← aggPs_X]
  cases hl : longB p
  case true => simp
  by_cases h1 : p.nodes.length = p.edges.length + 1
  case neg => simp [h1]
  cases h2 : p.edges.all hopB
  case false => simp [h1]
  have e1 : (partsL p.nodes p.edges).all partOK = (p.edges.all oG && p.nodes.all oN) := by
    rw [parts_all _ _ (by omega), Bool.and_comm]
    have a1 : (fun e => partOK (edgeN e)) = oG := by funext e; simp only [partOK, oG, edgeN, Bool.and_assoc]
    have a2 : partOK = oN := by funext e; simp only [partOK, oN, Bool.and_assoc]
    rw [a1, a2]
  have e2 : (partsL p.nodes p.edges).all partUp = (p.edges.all uG && p.nodes.all uN) := by
    rw [parts_all _ _ (by omega), Bool.and_comm]
    rfl
  rw [e1, e2]
  generalize (p.edges.all oG && p.nodes.all oN) = A
  generalize (p.edges.all uG && p.nodes.all uN) = B
  cases freeB p.var <;> cases A <;> cases B <;> simp [h1]
theorem five (a f w k : Bool) : (a = false) ∨ (a = true ∧ f = false) ∨ (a = true ∧ f = true ∧ w = false) ∨ (a = true ∧ f = true ∧ w = true ∧ k = false) ∨ (a = true ∧ f = true ∧ w = true ∧ k = true) := by cases a <;> cases f <;> cases w <;> cases k <;> simp
theorem four (a w k : Bool) : (a = false) ∨ (a = true ∧ w = false) ∨ (a = true ∧ w = true ∧ k = false) ∨ (a = true ∧ w = true ∧ k = true) := by cases a <;> cases w <;> cases k <;> simp
structure B2 where
  a : Bool
  b : Bool
section
variable {m : Int}
noncomputable def CSh (m : Int) : Ctx := mkC Tryz.prog (G m) [(141, .pure sHp), (142, .pure sFree), (143, .pure sHop), (98, .pure sWs), (144, .pure sKs), (145, .pure sRs)]
@[simp] theorem CSh_P (m : Int) : (CSh m).P = Tryz.prog := rfl
@[simp] theorem CSh_1 (m : Int) : (CSh m).S 141 = .pure sHp := rfl
@[simp] theorem CSh_2 (m : Int) : (CSh m).S 142 = .pure sFree := rfl
@[simp] theorem CSh_3 (m : Int) : (CSh m).S 143 = .pure sHop := rfl
@[simp] theorem CSh_4 (m : Int) : (CSh m).S 98 = .pure sWs := rfl
@[simp] theorem CSh_5 (m : Int) : (CSh m).S 144 = .pure sKs := rfl
@[simp] theorem CSh_6 (m : Int) : (CSh m).S 145 = .pure sRs := rfl
theorem mixCSh (m : Int) : (CSh m).P.follows .mixedOrders = true := mixed
theorem sigCSh (m : Int) : SigOK (CSh m) := sigOK_cons (entryPure hopsR Tryz.func141 rfl (by decide)) (sigOK_cons (entryPure freeR Tryz.func142 rfl (by decide)) (sigOK_cons (entryPure boundsR Tryz.func143 rfl (by decide)) (sigOK_cons (entryPure wsR Tryz.func98 rfl (by decide)) (sigOK_cons (entryPure keysR Tryz.func144 rfl (by decide)) (sigOK_cons (entryPure risesR Tryz.func145 rfl (by decide)) (sigOK_nil _ _))))))
def sShape : List AV → Option (Prop × AV) := spec1 (fun (p : PathPat) => WfP p) (fun p => .int .i64 (shapeE p))
set_option maxHeartbeats 16000000 in
theorem shapeR : PureOK Tryz.prog (G m) 123 sShape := by
  refine pure1 (C := CSh m) (sigCSh m) (mixCSh m) Tryz.func123 rfl rfl rfl (by kernel_rfl) (by decide) (fun p ⟨wv, ⟨wn, wN⟩, we, wE⟩ => ?_)
  have we' := maxLen_le we
  cases hl : longB p
  case true => simp [sHp, we, hl, shapeE]
  have hel : p.edges.length ≤ 6 := by
    unfold longB at hl
    simp only [Bool.or_eq_false_iff, decide_eq_false_iff_not] at hl
    omega
  have i0 : I64 ((p.edges.length : Int) + 1) := by unfold I64; omega
  by_cases h2 : p.nodes.length = p.edges.length + 1
  case neg =>
    have h2' : ((p.nodes.length : Int) = (p.edges.length : Int) + 1) = False := eq_false (by omega)
    simp [sHp, we, hl, i0, h2, h2', shapeE]
  have h2' : ((p.nodes.length : Int) = (p.edges.length : Int) + 1) = True := eq_true (by omega)
  obtain ⟨HB, hHB⟩ : ∃ b, b = p.edges.all hopB := ⟨_, rfl⟩
  obtain ⟨OG, hOG⟩ : ∃ b, b = p.edges.all oG := ⟨_, rfl⟩
  obtain ⟨UG, hUG⟩ : ∃ b, b = p.edges.all uG := ⟨_, rfl⟩
  obtain ⟨ON, hON⟩ : ∃ b, b = p.nodes.all oN := ⟨_, rfl⟩
  obtain ⟨UN, hUN⟩ : ∃ b, b = p.nodes.all uN := ⟨_, rfl⟩
  have hE : shapeE p = if HB = false then 1 else if (freeB p.var && (OG && ON)) = false then 6 else if (UG && UN) = false then 26 else 0 := by
    unfold shapeE
    rw [if_neg (by rw [hl]; simp), if_neg (by simp [h2]), hHB, hOG, hUG, hON, hUN]
  rw [hE]
  obtain ⟨FV, hFV⟩ : ∃ b, b = freeB p.var := ⟨_, rfl⟩
  rw [← hFV]
  obtain ⟨Z1, hZ1⟩ : ∃ b, b = (FV && (OG && ON)) := ⟨_, rfl⟩
  obtain ⟨Z2, hZ2⟩ : ∃ b, b = (UG && UN) := ⟨_, rfl⟩
  rw [← hZ1, ← hZ2]
  simp [sHp, sFree, we, hl, i0, h2', ← hFV]
  refine loop_rule (C := CSh m) (sigCSh m) (mixCSh m) (fun q : Nat × B2 => ⟨[(1, .ptr 0 1 3 0 0), (3, .bool q.2.a), (4, .bool q.2.b), (5, .int .i64 q.1)], [PB p]⟩) (fun q => q.1 ≤ p.edges.length ∧ (p.edges.drop q.1).all hopB = HB ∧ (q.2.a && (p.edges.drop q.1).all oG) = (FV && OG) ∧ (q.2.b && (p.edges.drop q.1).all uG) = UG) (fun q => p.edges.length - q.1) (by kernel_rfl) ⟨(0, ⟨FV, true⟩), ⟨by omega, by rw [hHB]; rfl, by rw [hOG]; rfl, by rw [hUG]; simp⟩, weak_slots (by simp)⟩ (fun ⟨i, ⟨a, b⟩⟩ ⟨hi, hh, ho, hu⟩ => ?_)
  simp only at hi hh ho hu ⊢
  by_cases hlt : i < p.edges.length
  · have i1 : I64 ((i : Int) + 1) := by unfold I64; omega
    obtain ⟨x1, ⟨x2, x3⟩, x4, x5⟩ := wE _ (ix_mem hlt)
    have y2 : (ix p.edges i).types.length ≤ maxLen := x2
    have y4 : (ix p.edges i).props.length ≤ 1048576 := x4
    have y6 : (keysL (ix p.edges i).props).length ≤ maxLen := by unfold keysL; rw [List.length_map]; exact small_max y4
    rw [all_drop hlt] at hh ho hu
    cases hhop : hopB (ix p.edges i)
    · rw [hhop, Bool.false_and] at hh
      simp [PB, hlt, rowAt_enc hlt, sHop, hhop, ← hh]
    rw [hhop, Bool.true_and] at hh
    rw [← Bool.and_assoc] at ho hu
    rcases five a (freeB (ix p.edges i).var) ((ix p.edges i).types.all wordB) ((keysL (ix p.edges i).props).all wordB) with rfl | ⟨rfl, f1⟩ | ⟨rfl, f1, f2⟩ | ⟨rfl, f1, f2, f3⟩ | ⟨rfl, f1, f2, f3⟩
    · have ho2 : (false && (List.drop (i + 1) p.edges).all oG) = (FV && OG) := by
        rw [← ho]; simp [oG]
      rcases four b (risesB (ix p.edges i).types) (risesB (keysL (ix p.edges i).props)) with rfl | ⟨rfl, g1⟩ | ⟨rfl, g1, g2⟩ | ⟨rfl, g1, g2⟩
      · have hu2 : (false && (List.drop (i + 1) p.edges).all uG) = (UG) := by
          rw [← hu]; simp [uG]
        simp [PB, hlt, rowAt_enc hlt, sHop, sFree, sWs, sKs, sRs, hhop, y2, y4, y6, i1]
        exact ⟨i + 1, ⟨false, false⟩, ⟨by omega, hh, ho2, hu2⟩, by omega, weak_keep 1 (by simp) (by simp) (by simp [AV.clean, AV.clean1]) (by simp) (by simp [PB])⟩
      · have hu2 : (false && (List.drop (i + 1) p.edges).all uG) = (UG) := by
          rw [← hu]; simp [uG, g1]
        simp [PB, hlt, rowAt_enc hlt, sHop, sFree, sWs, sKs, sRs, hhop, y2, y4, y6, i1, g1]
        exact ⟨i + 1, ⟨false, false⟩, ⟨by omega, hh, ho2, hu2⟩, by omega, weak_keep 1 (by simp) (by simp) (by simp [AV.clean, AV.clean1]) (by simp) (by simp [PB])⟩
      · have hu2 : (false && (List.drop (i + 1) p.edges).all uG) = (UG) := by
          rw [← hu]; simp [uG, g1, g2]
        simp [PB, hlt, rowAt_enc hlt, sHop, sFree, sWs, sKs, sRs, hhop, y2, y4, y6, i1, g1, g2]
        exact ⟨i + 1, ⟨false, false⟩, ⟨by omega, hh, ho2, hu2⟩, by omega, weak_keep 1 (by simp) (by simp) (by simp [AV.clean, AV.clean1]) (by simp) (by simp [PB])⟩
      · have hu2 : (true && (List.drop (i + 1) p.edges).all uG) = (UG) := by
          rw [← hu]; simp [uG, g1, g2]
        simp [PB, hlt, rowAt_enc hlt, sHop, sFree, sWs, sKs, sRs, hhop, y2, y4, y6, i1, g1, g2]
        exact ⟨i + 1, ⟨false, true⟩, ⟨by omega, hh, ho2, hu2⟩, by omega, weak_keep 1 (by simp) (by simp) (by simp [AV.clean, AV.clean1]) (by simp) (by simp [PB])⟩
    · have ho2 : (false && (List.drop (i + 1) p.edges).all oG) = (FV && OG) := by
        rw [← ho]; simp [oG, f1]
      rcases four b (risesB (ix p.edges i).types) (risesB (keysL (ix p.edges i).props)) with rfl | ⟨rfl, g1⟩ | ⟨rfl, g1, g2⟩ | ⟨rfl, g1, g2⟩
      · have hu2 : (false && (List.drop (i + 1) p.edges).all uG) = (UG) := by
          rw [← hu]; simp [uG]
        simp [PB, hlt, rowAt_enc hlt, sHop, sFree, sWs, sKs, sRs, hhop, y2, y4, y6, i1, f1]
        exact ⟨i + 1, ⟨false, false⟩, ⟨by omega, hh, ho2, hu2⟩, by omega, weak_keep 1 (by simp) (by simp) (by simp [AV.clean, AV.clean1]) (by simp) (by simp [PB])⟩
      · have hu2 : (false && (List.drop (i + 1) p.edges).all uG) = (UG) := by
          rw [← hu]; simp [uG, g1]
        simp [PB, hlt, rowAt_enc hlt, sHop, sFree, sWs, sKs, sRs, hhop, y2, y4, y6, i1, f1, g1]
        exact ⟨i + 1, ⟨false, false⟩, ⟨by omega, hh, ho2, hu2⟩, by omega, weak_keep 1 (by simp) (by simp) (by simp [AV.clean, AV.clean1]) (by simp) (by simp [PB])⟩
      · have hu2 : (false && (List.drop (i + 1) p.edges).all uG) = (UG) := by
          rw [← hu]; simp [uG, g1, g2]
        simp [PB, hlt, rowAt_enc hlt, sHop, sFree, sWs, sKs, sRs, hhop, y2, y4, y6, i1, f1, g1, g2]
        exact ⟨i + 1, ⟨false, false⟩, ⟨by omega, hh, ho2, hu2⟩, by omega, weak_keep 1 (by simp) (by simp) (by simp [AV.clean, AV.clean1]) (by simp) (by simp [PB])⟩
      · have hu2 : (true && (List.drop (i + 1) p.edges).all uG) = (UG) := by
          rw [← hu]; simp [uG, g1, g2]
        simp [PB, hlt, rowAt_enc hlt, sHop, sFree, sWs, sKs, sRs, hhop, y2, y4, y6, i1, f1, g1, g2]
        exact ⟨i + 1, ⟨false, true⟩, ⟨by omega, hh, ho2, hu2⟩, by omega, weak_keep 1 (by simp) (by simp) (by simp [AV.clean, AV.clean1]) (by simp) (by simp [PB])⟩
    · have ho2 : (false && (List.drop (i + 1) p.edges).all oG) = (FV && OG) := by
        rw [← ho]; simp [oG, f1, f2]
      rcases four b (risesB (ix p.edges i).types) (risesB (keysL (ix p.edges i).props)) with rfl | ⟨rfl, g1⟩ | ⟨rfl, g1, g2⟩ | ⟨rfl, g1, g2⟩
      · have hu2 : (false && (List.drop (i + 1) p.edges).all uG) = (UG) := by
          rw [← hu]; simp [uG]
        simp [PB, hlt, rowAt_enc hlt, sHop, sFree, sWs, sKs, sRs, hhop, y2, y4, y6, i1, f1, f2]
        exact ⟨i + 1, ⟨false, false⟩, ⟨by omega, hh, ho2, hu2⟩, by omega, weak_keep 1 (by simp) (by simp) (by simp [AV.clean, AV.clean1]) (by simp) (by simp [PB])⟩
      · have hu2 : (false && (List.drop (i + 1) p.edges).all uG) = (UG) := by
          rw [← hu]; simp [uG, g1]
        simp [PB, hlt, rowAt_enc hlt, sHop, sFree, sWs, sKs, sRs, hhop, y2, y4, y6, i1, f1, f2, g1]
        exact ⟨i + 1, ⟨false, false⟩, ⟨by omega, hh, ho2, hu2⟩, by omega, weak_keep 1 (by simp) (by simp) (by simp [AV.clean, AV.clean1]) (by simp) (by simp [PB])⟩
      · have hu2 : (false && (List.drop (i + 1) p.edges).all uG) = (UG) := by
          rw [← hu]; simp [uG, g1, g2]
        simp [PB, hlt, rowAt_enc hlt, sHop, sFree, sWs, sKs, sRs, hhop, y2, y4, y6, i1, f1, f2, g1, g2]
        exact ⟨i + 1, ⟨false, false⟩, ⟨by omega, hh, ho2, hu2⟩, by omega, weak_keep 1 (by simp) (by simp) (by simp [AV.clean, AV.clean1]) (by simp) (by simp [PB])⟩
      · have hu2 : (true && (List.drop (i + 1) p.edges).all uG) = (UG) := by
          rw [← hu]; simp [uG, g1, g2]
        simp [PB, hlt, rowAt_enc hlt, sHop, sFree, sWs, sKs, sRs, hhop, y2, y4, y6, i1, f1, f2, g1, g2]
        exact ⟨i + 1, ⟨false, true⟩, ⟨by omega, hh, ho2, hu2⟩, by omega, weak_keep 1 (by simp) (by simp) (by simp [AV.clean, AV.clean1]) (by simp) (by simp [PB])⟩
    · have ho2 : (false && (List.drop (i + 1) p.edges).all oG) = (FV && OG) := by
        rw [← ho]; simp [oG, f1, f2, f3]
      rcases four b (risesB (ix p.edges i).types) (risesB (keysL (ix p.edges i).props)) with rfl | ⟨rfl, g1⟩ | ⟨rfl, g1, g2⟩ | ⟨rfl, g1, g2⟩
      · have hu2 : (false && (List.drop (i + 1) p.edges).all uG) = (UG) := by
          rw [← hu]; simp [uG]
        simp [PB, hlt, rowAt_enc hlt, sHop, sFree, sWs, sKs, sRs, hhop, y2, y4, y6, i1, f1, f2, f3]
        exact ⟨i + 1, ⟨false, false⟩, ⟨by omega, hh, ho2, hu2⟩, by omega, weak_keep 1 (by simp) (by simp) (by simp [AV.clean, AV.clean1]) (by simp) (by simp [PB])⟩
      · have hu2 : (false && (List.drop (i + 1) p.edges).all uG) = (UG) := by
          rw [← hu]; simp [uG, g1]
        simp [PB, hlt, rowAt_enc hlt, sHop, sFree, sWs, sKs, sRs, hhop, y2, y4, y6, i1, f1, f2, f3, g1]
        exact ⟨i + 1, ⟨false, false⟩, ⟨by omega, hh, ho2, hu2⟩, by omega, weak_keep 1 (by simp) (by simp) (by simp [AV.clean, AV.clean1]) (by simp) (by simp [PB])⟩
      · have hu2 : (false && (List.drop (i + 1) p.edges).all uG) = (UG) := by
          rw [← hu]; simp [uG, g1, g2]
        simp [PB, hlt, rowAt_enc hlt, sHop, sFree, sWs, sKs, sRs, hhop, y2, y4, y6, i1, f1, f2, f3, g1, g2]
        exact ⟨i + 1, ⟨false, false⟩, ⟨by omega, hh, ho2, hu2⟩, by omega, weak_keep 1 (by simp) (by simp) (by simp [AV.clean, AV.clean1]) (by simp) (by simp [PB])⟩
      · have hu2 : (true && (List.drop (i + 1) p.edges).all uG) = (UG) := by
          rw [← hu]; simp [uG, g1, g2]
        simp [PB, hlt, rowAt_enc hlt, sHop, sFree, sWs, sKs, sRs, hhop, y2, y4, y6, i1, f1, f2, f3, g1, g2]
        exact ⟨i + 1, ⟨false, true⟩, ⟨by omega, hh, ho2, hu2⟩, by omega, weak_keep 1 (by simp) (by simp) (by simp [AV.clean, AV.clean1]) (by simp) (by simp [PB])⟩
    · have ho2 : (true && (List.drop (i + 1) p.edges).all oG) = (FV && OG) := by
        rw [← ho]; simp [oG, f1, f2, f3]
      rcases four b (risesB (ix p.edges i).types) (risesB (keysL (ix p.edges i).props)) with rfl | ⟨rfl, g1⟩ | ⟨rfl, g1, g2⟩ | ⟨rfl, g1, g2⟩
      · have hu2 : (false && (List.drop (i + 1) p.edges).all uG) = (UG) := by
          rw [← hu]; simp [uG]
        simp [PB, hlt, rowAt_enc hlt, sHop, sFree, sWs, sKs, sRs, hhop, y2, y4, y6, i1, f1, f2, f3]
        exact ⟨i + 1, ⟨true, false⟩, ⟨by omega, hh, ho2, hu2⟩, by omega, weak_keep 1 (by simp) (by simp) (by simp [AV.clean, AV.clean1]) (by simp) (by simp [PB])⟩
      · have hu2 : (false && (List.drop (i + 1) p.edges).all uG) = (UG) := by
          rw [← hu]; simp [uG, g1]
        simp [PB, hlt, rowAt_enc hlt, sHop, sFree, sWs, sKs, sRs, hhop, y2, y4, y6, i1, f1, f2, f3, g1]
        exact ⟨i + 1, ⟨true, false⟩, ⟨by omega, hh, ho2, hu2⟩, by omega, weak_keep 1 (by simp) (by simp) (by simp [AV.clean, AV.clean1]) (by simp) (by simp [PB])⟩
      · have hu2 : (false && (List.drop (i + 1) p.edges).all uG) = (UG) := by
          rw [← hu]; simp [uG, g1, g2]
        simp [PB, hlt, rowAt_enc hlt, sHop, sFree, sWs, sKs, sRs, hhop, y2, y4, y6, i1, f1, f2, f3, g1, g2]
        exact ⟨i + 1, ⟨true, false⟩, ⟨by omega, hh, ho2, hu2⟩, by omega, weak_keep 1 (by simp) (by simp) (by simp [AV.clean, AV.clean1]) (by simp) (by simp [PB])⟩
      · have hu2 : (true && (List.drop (i + 1) p.edges).all uG) = (UG) := by
          rw [← hu]; simp [uG, g1, g2]
        simp [PB, hlt, rowAt_enc hlt, sHop, sFree, sWs, sKs, sRs, hhop, y2, y4, y6, i1, f1, f2, f3, g1, g2]
        exact ⟨i + 1, ⟨true, true⟩, ⟨by omega, hh, ho2, hu2⟩, by omega, weak_keep 1 (by simp) (by simp) (by simp [AV.clean, AV.clean1]) (by simp) (by simp [PB])⟩
  rw [List.drop_eq_nil_of_le (by omega), List.all_nil] at hh
  rw [List.drop_eq_nil_of_le (by omega), List.all_nil, Bool.and_true] at ho hu
  subst ho
  simp [PB, hlt]
  refine loop_rule (C := CSh m) (sigCSh m) (mixCSh m) (fun q : Nat × B2 => ⟨[(1, .ptr 0 1 3 0 0), (3, .bool q.2.a), (4, .bool q.2.b), (7, .int .i64 q.1)], [PB p]⟩) (fun q => q.1 ≤ p.nodes.length ∧ (q.2.a && (p.nodes.drop q.1).all oN) = Z1 ∧ (q.2.b && (p.nodes.drop q.1).all uN) = Z2) (fun q => p.nodes.length - q.1) (by kernel_rfl) ⟨(0, ⟨FV && OG, b⟩), ⟨by omega, by rw [hZ1, hON, ← Bool.and_assoc]; rfl, by rw [hZ2, hu, hUN]; rfl⟩, weak_slots (by simp [PB])⟩ (fun ⟨i, ⟨a, b⟩⟩ ⟨hi, ho, hu⟩ => ?_)
  simp only at hi ho hu ⊢
  by_cases hlt : i < p.nodes.length
  · have i1 : I64 ((i : Int) + 1) := by unfold I64; omega
    obtain ⟨x1, ⟨y2, x3⟩, y4, x5⟩ := wN _ (ix_mem hlt)
    have y6 : (keysL (ix p.nodes i).props).length ≤ maxLen := by unfold keysL; rw [List.length_map]; exact small_max y4
    rw [all_drop hlt] at ho hu
    rw [← Bool.and_assoc] at ho hu
    rcases five a (freeB (ix p.nodes i).var) ((ix p.nodes i).labels.all wordB) ((keysL (ix p.nodes i).props).all wordB) with rfl | ⟨rfl, f1⟩ | ⟨rfl, f1, f2⟩ | ⟨rfl, f1, f2, f3⟩ | ⟨rfl, f1, f2, f3⟩
    · have ho2 : (false && (List.drop (i + 1) p.nodes).all oN) = Z1 := by
        rw [← ho]; simp [oN]
      rcases four b (risesB (ix p.nodes i).labels) (risesB (keysL (ix p.nodes i).props)) with rfl | ⟨rfl, g1⟩ | ⟨rfl, g1, g2⟩ | ⟨rfl, g1, g2⟩
      · have hu2 : (false && (List.drop (i + 1) p.nodes).all uN) = Z2 := by
          rw [← hu]; simp [uN]
        simp [PB, hlt, rowAt_enc hlt, sHop, sFree, sWs, sKs, sRs, y2, y4, y6, i1]
        exact ⟨i + 1, ⟨false, false⟩, ⟨by omega, ho2, hu2⟩, by omega, weak_keep 1 (by simp) (by simp) (by simp [AV.clean, AV.clean1]) (by simp) (by simp [PB])⟩
      · have hu2 : (false && (List.drop (i + 1) p.nodes).all uN) = Z2 := by
          rw [← hu]; simp [uN, g1]
        simp [PB, hlt, rowAt_enc hlt, sHop, sFree, sWs, sKs, sRs, y2, y4, y6, i1, g1]
        exact ⟨i + 1, ⟨false, false⟩, ⟨by omega, ho2, hu2⟩, by omega, weak_keep 1 (by simp) (by simp) (by simp [AV.clean, AV.clean1]) (by simp) (by simp [PB])⟩
      · have hu2 : (false && (List.drop (i + 1) p.nodes).all uN) = Z2 := by
          rw [← hu]; simp [uN, g1, g2]
        simp [PB, hlt, rowAt_enc hlt, sHop, sFree, sWs, sKs, sRs, y2, y4, y6, i1, g1, g2]
        exact ⟨i + 1, ⟨false, false⟩, ⟨by omega, ho2, hu2⟩, by omega, weak_keep 1 (by simp) (by simp) (by simp [AV.clean, AV.clean1]) (by simp) (by simp [PB])⟩
      · have hu2 : (true && (List.drop (i + 1) p.nodes).all uN) = Z2 := by
          rw [← hu]; simp [uN, g1, g2]
        simp [PB, hlt, rowAt_enc hlt, sHop, sFree, sWs, sKs, sRs, y2, y4, y6, i1, g1, g2]
        exact ⟨i + 1, ⟨false, true⟩, ⟨by omega, ho2, hu2⟩, by omega, weak_keep 1 (by simp) (by simp) (by simp [AV.clean, AV.clean1]) (by simp) (by simp [PB])⟩
    · have ho2 : (false && (List.drop (i + 1) p.nodes).all oN) = Z1 := by
        rw [← ho]; simp [oN, f1]
      rcases four b (risesB (ix p.nodes i).labels) (risesB (keysL (ix p.nodes i).props)) with rfl | ⟨rfl, g1⟩ | ⟨rfl, g1, g2⟩ | ⟨rfl, g1, g2⟩
      · have hu2 : (false && (List.drop (i + 1) p.nodes).all uN) = Z2 := by
          rw [← hu]; simp [uN]
        simp [PB, hlt, rowAt_enc hlt, sHop, sFree, sWs, sKs, sRs, y2, y4, y6, i1, f1]
        exact ⟨i + 1, ⟨false, false⟩, ⟨by omega, ho2, hu2⟩, by omega, weak_keep 1 (by simp) (by simp) (by simp [AV.clean, AV.clean1]) (by simp) (by simp [PB])⟩
      · have hu2 : (false && (List.drop (i + 1) p.nodes).all uN) = Z2 := by
          rw [← hu]; simp [uN, g1]
        simp [PB, hlt, rowAt_enc hlt, sHop, sFree, sWs, sKs, sRs, y2, y4, y6, i1, f1, g1]
        exact ⟨i + 1, ⟨false, false⟩, ⟨by omega, ho2, hu2⟩, by omega, weak_keep 1 (by simp) (by simp) (by simp [AV.clean, AV.clean1]) (by simp) (by simp [PB])⟩
      · have hu2 : (false && (List.drop (i + 1) p.nodes).all uN) = Z2 := by
          rw [← hu]; simp [uN, g1, g2]
        simp [PB, hlt, rowAt_enc hlt, sHop, sFree, sWs, sKs, sRs, y2, y4, y6, i1, f1, g1, g2]
        exact ⟨i + 1, ⟨false, false⟩, ⟨by omega, ho2, hu2⟩, by omega, weak_keep 1 (by simp) (by simp) (by simp [AV.clean, AV.clean1]) (by simp) (by simp [PB])⟩
      · have hu2 : (true && (List.drop (i + 1) p.nodes).all uN) = Z2 := by
          rw [← hu]; simp [uN, g1, g2]
        simp [PB, hlt, rowAt_enc hlt, sHop, sFree, sWs, sKs, sRs, y2, y4, y6, i1, f1, g1, g2]
        exact ⟨i + 1, ⟨false, true⟩, ⟨by omega, ho2, hu2⟩, by omega, weak_keep 1 (by simp) (by simp) (by simp [AV.clean, AV.clean1]) (by simp) (by simp [PB])⟩
    · have ho2 : (false && (List.drop (i + 1) p.nodes).all oN) = Z1 := by
        rw [← ho]; simp [oN, f1, f2]
      rcases four b (risesB (ix p.nodes i).labels) (risesB (keysL (ix p.nodes i).props)) with rfl | ⟨rfl, g1⟩ | ⟨rfl, g1, g2⟩ | ⟨rfl, g1, g2⟩
      · have hu2 : (false && (List.drop (i + 1) p.nodes).all uN) = Z2 := by
          rw [← hu]; simp [uN]
        simp [PB, hlt, rowAt_enc hlt, sHop, sFree, sWs, sKs, sRs, y2, y4, y6, i1, f1, f2]
        exact ⟨i + 1, ⟨false, false⟩, ⟨by omega, ho2, hu2⟩, by omega, weak_keep 1 (by simp) (by simp) (by simp [AV.clean, AV.clean1]) (by simp) (by simp [PB])⟩
      · have hu2 : (false && (List.drop (i + 1) p.nodes).all uN) = Z2 := by
          rw [← hu]; simp [uN, g1]
        simp [PB, hlt, rowAt_enc hlt, sHop, sFree, sWs, sKs, sRs, y2, y4, y6, i1, f1, f2, g1]
        exact ⟨i + 1, ⟨false, false⟩, ⟨by omega, ho2, hu2⟩, by omega, weak_keep 1 (by simp) (by simp) (by simp [AV.clean, AV.clean1]) (by simp) (by simp [PB])⟩
      · have hu2 : (false && (List.drop (i + 1) p.nodes).all uN) = Z2 := by
          rw [← hu]; simp [uN, g1, g2]
        simp [PB, hlt, rowAt_enc hlt, sHop, sFree, sWs, sKs, sRs, y2, y4, y6, i1, f1, f2, g1, g2]
        exact ⟨i + 1, ⟨false, false⟩, ⟨by omega, ho2, hu2⟩, by omega, weak_keep 1 (by simp) (by simp) (by simp [AV.clean, AV.clean1]) (by simp) (by simp [PB])⟩
      · have hu2 : (true && (List.drop (i + 1) p.nodes).all uN) = Z2 := by
          rw [← hu]; simp [uN, g1, g2]
        simp [PB, hlt, rowAt_enc hlt, sHop, sFree, sWs, sKs, sRs, y2, y4, y6, i1, f1, f2, g1, g2]
        exact ⟨i + 1, ⟨false, true⟩, ⟨by omega, ho2, hu2⟩, by omega, weak_keep 1 (by simp) (by simp) (by simp [AV.clean, AV.clean1]) (by simp) (by simp [PB])⟩
    · have ho2 : (false && (List.drop (i + 1) p.nodes).all oN) = Z1 := by
        rw [← ho]; simp [oN, f1, f2, f3]
      rcases four b (risesB (ix p.nodes i).labels) (risesB (keysL (ix p.nodes i).props)) with rfl | ⟨rfl, g1⟩ | ⟨rfl, g1, g2⟩ | ⟨rfl, g1, g2⟩
      · have hu2 : (false && (List.drop (i + 1) p.nodes).all uN) = Z2 := by
          rw [← hu]; simp [uN]
        simp [PB, hlt, rowAt_enc hlt, sHop, sFree, sWs, sKs, sRs, y2, y4, y6, i1, f1, f2, f3]
        exact ⟨i + 1, ⟨false, false⟩, ⟨by omega, ho2, hu2⟩, by omega, weak_keep 1 (by simp) (by simp) (by simp [AV.clean, AV.clean1]) (by simp) (by simp [PB])⟩
      · have hu2 : (false && (List.drop (i + 1) p.nodes).all uN) = Z2 := by
          rw [← hu]; simp [uN, g1]
        simp [PB, hlt, rowAt_enc hlt, sHop, sFree, sWs, sKs, sRs, y2, y4, y6, i1, f1, f2, f3, g1]
        exact ⟨i + 1, ⟨false, false⟩, ⟨by omega, ho2, hu2⟩, by omega, weak_keep 1 (by simp) (by simp) (by simp [AV.clean, AV.clean1]) (by simp) (by simp [PB])⟩
      · have hu2 : (false && (List.drop (i + 1) p.nodes).all uN) = Z2 := by
          rw [← hu]; simp [uN, g1, g2]
        simp [PB, hlt, rowAt_enc hlt, sHop, sFree, sWs, sKs, sRs, y2, y4, y6, i1, f1, f2, f3, g1, g2]
        exact ⟨i + 1, ⟨false, false⟩, ⟨by omega, ho2, hu2⟩, by omega, weak_keep 1 (by simp) (by simp) (by simp [AV.clean, AV.clean1]) (by simp) (by simp [PB])⟩
      · have hu2 : (true && (List.drop (i + 1) p.nodes).all uN) = Z2 := by
          rw [← hu]; simp [uN, g1, g2]
        simp [PB, hlt, rowAt_enc hlt, sHop, sFree, sWs, sKs, sRs, y2, y4, y6, i1, f1, f2, f3, g1, g2]
        exact ⟨i + 1, ⟨false, true⟩, ⟨by omega, ho2, hu2⟩, by omega, weak_keep 1 (by simp) (by simp) (by simp [AV.clean, AV.clean1]) (by simp) (by simp [PB])⟩
    · have ho2 : (true && (List.drop (i + 1) p.nodes).all oN) = Z1 := by
        rw [← ho]; simp [oN, f1, f2, f3]
      rcases four b (risesB (ix p.nodes i).labels) (risesB (keysL (ix p.nodes i).props)) with rfl | ⟨rfl, g1⟩ | ⟨rfl, g1, g2⟩ | ⟨rfl, g1, g2⟩
      · have hu2 : (false && (List.drop (i + 1) p.nodes).all uN) = Z2 := by
          rw [← hu]; simp [uN]
        simp [PB, hlt, rowAt_enc hlt, sHop, sFree, sWs, sKs, sRs, y2, y4, y6, i1, f1, f2, f3]
        exact ⟨i + 1, ⟨true, false⟩, ⟨by omega, ho2, hu2⟩, by omega, weak_keep 1 (by simp) (by simp) (by simp [AV.clean, AV.clean1]) (by simp) (by simp [PB])⟩
      · have hu2 : (false && (List.drop (i + 1) p.nodes).all uN) = Z2 := by
          rw [← hu]; simp [uN, g1]
        simp [PB, hlt, rowAt_enc hlt, sHop, sFree, sWs, sKs, sRs, y2, y4, y6, i1, f1, f2, f3, g1]
        exact ⟨i + 1, ⟨true, false⟩, ⟨by omega, ho2, hu2⟩, by omega, weak_keep 1 (by simp) (by simp) (by simp [AV.clean, AV.clean1]) (by simp) (by simp [PB])⟩
      · have hu2 : (false && (List.drop (i + 1) p.nodes).all uN) = Z2 := by
          rw [← hu]; simp [uN, g1, g2]
        simp [PB, hlt, rowAt_enc hlt, sHop, sFree, sWs, sKs, sRs, y2, y4, y6, i1, f1, f2, f3, g1, g2]
        exact ⟨i + 1, ⟨true, false⟩, ⟨by omega, ho2, hu2⟩, by omega, weak_keep 1 (by simp) (by simp) (by simp [AV.clean, AV.clean1]) (by simp) (by simp [PB])⟩
      · have hu2 : (true && (List.drop (i + 1) p.nodes).all uN) = Z2 := by
          rw [← hu]; simp [uN, g1, g2]
        simp [PB, hlt, rowAt_enc hlt, sHop, sFree, sWs, sKs, sRs, y2, y4, y6, i1, f1, f2, f3, g1, g2]
        exact ⟨i + 1, ⟨true, true⟩, ⟨by omega, ho2, hu2⟩, by omega, weak_keep 1 (by simp) (by simp) (by simp [AV.clean, AV.clean1]) (by simp) (by simp [PB])⟩
  rw [List.drop_eq_nil_of_le (by omega), List.all_nil, Bool.and_true] at ho hu
  rw [← hh, ← ho, ← hu]
  cases a
  · simp [PB, hlt]
  · cases b <;> simp [PB, hlt]
end
end Go.Proofs.YtgjljfbohpnfcaaGreat


namespace Go.Proofs.YtgjljfbohpnfcaaGreat
open Go.RowKit
set_option linter.unusedSimpArgs false
set_option linter.unusedVariables false
set_option maxRecDepth 100000
theorem any_drop' {l : List Expr} {i : Nat} (h : i < l.length) : (l.drop i).any aggE = (aggE (ix l i) || (l.drop (i + 1)).any aggE) := any_drop h
section
variable {m : Int}
noncomputable def CRp (m : Int) : Ctx := mkC Tryz.prog (G m) [(123, .pure sShape), (34, .pure sProps), (95, .pure sChk), (68, .pure sHasA)]
@[simp] theorem CRp_P (m : Int) : (CRp m).P = Tryz.prog := rfl
@[simp] theorem CRp_1 (m : Int) : (CRp m).S 123 = .pure sShape := rfl
@[simp] theorem CRp_2 (m : Int) : (CRp m).S 34 = .pure sProps := rfl
@[simp] theorem CRp_3 (m : Int) : (CRp m).S 95 = .pure sChk := rfl
@[simp] theorem CRp_4 (m : Int) : (CRp m).S 68 = .pure sHasA := rfl
theorem mixCRp (m : Int) : (CRp m).P.follows .mixedOrders = true := mixed
theorem sigCRp (m : Int) : SigOK (CRp m) := sigOK_cons (entryPure shapeR Tryz.func123 rfl (by decide)) (sigOK_cons (entryPure propsR Tryz.func34 rfl (by decide)) (sigOK_cons (entryPure checkR Tryz.func95 rfl (by decide)) (sigOK_cons (entryPure hasR Tryz.func68 rfl (by decide)) (sigOK_nil _ _))))
def sPathS : List AV → Option (Prop × AV) := spec2 (fun (p : PathPat) (_ : Bool) => WfPS p) (fun p c => .int .i64 (pathE p c))
set_option maxHeartbeats 16000000 in
theorem checkPathR : PureOK Tryz.prog (G m) 94 sPathS := by
  refine pure2 (C := CRp m) (sigCRp m) (mixCRp m) Tryz.func94 rfl rfl rfl (by kernel_rfl) (by decide) (fun p c hps => ?_)
  have hps2 := hps
  obtain ⟨wp, hb⟩ := hps2
  have wp2 := wp
  obtain ⟨wv, ⟨wn, wN⟩, we, wE⟩ := wp2
  have we' := maxLen_le we
  rw [pathE_shape]
  by_cases hsh : shapeE p = 0
  case neg => simp [sShape, wp, hsh]
  obtain ⟨X, hX⟩ : ∃ X, X = exprsL (partsL p.nodes p.edges) := ⟨_, rfl⟩
  have hXw : ∀ e ∈ X, WfE e := by rw [hX]; exact exprsL_wf (partsL_wf _ _ wN wE)
  have hXl : X.length ≤ 1048576 := by have := exprsL_len p.nodes p.edges; rw [← hX] at this; omega
  obtain ⟨CR, hCR⟩ : ∃ b, b = p.edges.all creB := ⟨_, rfl⟩
  obtain ⟨AG, hAG⟩ : ∃ b, b = X.any aggE := ⟨_, rfl⟩
  rw [← hX, ← hCR, ← hAG]
  simp [sShape, sProps, wp, hps, hsh, ← hX]
  refine loop_rule (C := CRp m) (sigCRp m) (mixCRp m) (fun i : Nat => ⟨[(1, .bool c), (2, .ptr 0 1 3 0 0), (6, Enc.enc X), (7, .int .i64 i)], [PB p]⟩) (fun i => i ≤ X.length ∧ errX (X.drop i) = errX X) (fun i => X.length - i) (by kernel_rfl) ⟨0, by simp, weak_slots (by simp [PB])⟩ (fun i ⟨hi, hs⟩ => ?_)
  by_cases hlt : i < X.length
  · have i1 : I64 ((i : Int) + 1) := by unfold I64; omega
    have w := hXw _ (ix_mem hlt)
    rw [errX_drop hlt] at hs
    by_cases h0 : checkE (ix X i) = 0
    · rw [if_neg (by simp [h0])] at hs
      simp [PB, hlt, rowAt_enc hlt, sChk, w, h0, i1]
      exact ⟨i + 1, ⟨by omega, hs⟩, by omega, weak_slots (by simp)⟩
    · rw [if_pos h0] at hs
      simp [PB, hlt, rowAt_enc hlt, sChk, w, h0, hsh, ← hs]
  rw [List.drop_eq_nil_of_le (by omega), errX] at hs
  simp [PB, hlt, hsh, ← hs]
  refine loop_rule (C := CRp m) (sigCRp m) (mixCRp m) (fun i : Nat => ⟨[(1, .bool c), (2, .ptr 0 1 3 0 0), (6, Enc.enc X), (9, .int .i64 i)], [PB p]⟩) (fun i => i ≤ X.length ∧ (X.drop i).any aggE = AG) (fun i => X.length - i) (by kernel_rfl) ⟨0, ⟨by omega, by rw [hAG]; rfl⟩, weak_slots (by simp [PB])⟩ (fun i ⟨hi, hg⟩ => ?_)
  by_cases hlt : i < X.length
  · have i1 : I64 ((i : Int) + 1) := by unfold I64; omega
    have w := hXw _ (ix_mem hlt)
    rw [any_drop' hlt] at hg
    cases h0 : aggE (ix X i)
    · rw [h0, Bool.false_or] at hg
      simp [PB, hlt, rowAt_enc hlt, sHasA, w, h0, i1]
      exact ⟨i + 1, ⟨by omega, hg⟩, by omega, weak_slots (by simp)⟩
    · rw [h0, Bool.true_or] at hg
      simp [PB, hlt, rowAt_enc hlt, sHasA, w, h0, hsh, ← hs, ← hg]
  rw [List.drop_eq_nil_of_le (by omega), List.any_nil] at hg
  simp [PB, hlt, hsh, ← hs, ← hg]
  refine loop_rule (C := CRp m) (sigCRp m) (mixCRp m) (fun i : Nat => ⟨[(1, .bool c), (2, .ptr 0 1 3 0 0), (10, .int .i64 i)], [PB p]⟩) (fun i => i ≤ p.edges.length ∧ (c = true → (p.edges.drop i).all creB = CR)) (fun i => p.edges.length - i) (by kernel_rfl) ⟨0, ⟨by omega, fun _ => by rw [hCR]; rfl⟩, weak_slots (by simp [PB])⟩ (fun i ⟨hi, hc⟩ => ?_)
  by_cases hlt : i < p.edges.length
  · have i1 : I64 ((i : Int) + 1) := by unfold I64; omega
    rw [all_drop hlt] at hc
    cases c
    · simp [PB, hlt, rowAt_enc hlt, i1]
      exact ⟨i + 1, by omega, by omega, weak_keep 1 (by simp) (by simp) (by simp [AV.clean, AV.clean1]) (by simp) (by simp [PB])⟩
    have hc := hc rfl
    rcases em2 ((ix p.edges i).mode = 0) with h1 | h1
    case inr =>
      have hB : creB (ix p.edges i) = false := by simp [creB, h1]
      rw [hB, Bool.false_and] at hc
      simp [PB, hlt, rowAt_enc hlt, h1, hsh, ← hs, ← hg, ← hc]
    by_cases h2 : (ix p.edges i).types.length = 1
    case neg =>
      have h2' : ¬ ((ix p.edges i).types.length : Int) = 1 := by omega
      have hB : creB (ix p.edges i) = false := by simp [creB, h2]
      rw [hB, Bool.false_and] at hc
      simp [PB, hlt, rowAt_enc hlt, h1, h2, h2', hsh, ← hs, ← hg, ← hc]
    rcases em2 ((ix p.edges i).dir = 3) with h3 | h3
    case inl =>
      have hB : creB (ix p.edges i) = false := by simp [creB, h3]
      rw [hB, Bool.false_and] at hc
      simp [PB, hlt, rowAt_enc hlt, h1, h2, h3, hsh, ← hs, ← hg, ← hc]
    have hB : creB (ix p.edges i) = true := by simp [creB, h1, h2, h3]
    rw [hB, Bool.true_and] at hc
    simp [PB, hlt, rowAt_enc hlt, h1, h2, h3, i1]
    exact ⟨i + 1, ⟨by omega, hc⟩, by omega, weak_keep 1 (by simp) (by simp) (by simp [AV.clean, AV.clean1]) (by simp) (by simp [PB])⟩
  cases c
  · simp [PB, hlt, hsh, ← hs, ← hg]
  · have hc := hc rfl
    rw [List.drop_eq_nil_of_le (by omega), List.all_nil] at hc
    simp [PB, hlt, hsh, ← hs, ← hg, ← hc]
end
end Go.Proofs.YtgjljfbohpnfcaaGreat


namespace Go.Proofs.YtgjljfbohpnfcaaGreat
open Go.RowKit
set_option linter.unusedSimpArgs false
set_option linter.unusedVariables false
set_option maxRecDepth 100000
def uP (c : Clause) : Bool := decide (0 < c.paths.length) && !isK [1, 5, 6] c.kind
def uW (c : Clause) : Bool := decide (0 < c.wh.length) && !isK [1, 3] c.kind
def uE (c : Clause) : Bool := !isK [2] c.kind && (!zeroE c.e || !decide (c.name = ⟨#[]⟩))
def uI (c : Clause) : Bool := !colsB c && (decide (0 < c.items.length) || decide (0 < c.order.length) || decide (0 < c.skip) || decide (0 < c.limit))
def unusedB (c : Clause) : Bool := !strayA c && !uP c && !uW c && !uE c && !uI c && !strayI c
def rangeB (c : Clause) : Bool := decide (c.skip < -1) || decide (1000000000000000 < c.skip) || decide (c.limit < -1) || decide (1000000000000000 < c.limit)
theorem absB_eq (n : Int) : absB n = (!decide (0 < n) && !decide (n < -1)) := by
  unfold absB
  by_cases h1 : 0 < n
  · have h2 : ¬ n = 0 := by omega
    have h3 : ¬ n = -1 := by omega
    simp [h1, h2, h3]
  · by_cases h2 : n < -1
    · have h3 : ¬ n = 0 := by omega
      have h4 : ¬ n = -1 := by omega
      simp [h2, h3, h4]
    · by_cases h3 : n = 0
      · simp [h3]
      · have h4 : n = -1 := by omega
        simp [h4]
theorem stray_eq (c : Clause) : strayB c = (!unusedB c || rangeB c) := by
  have e1 : strayC c = (uP c || uW c) := rfl
  have e2 : strayE c = (uE c || (!colsB c && (decide (0 < c.items.length) || decide (0 < c.order.length)))) := rfl
  have e3 : strayG c = ((!colsB c && (!absB c.skip || !absB c.limit)) || rangeB c) := rfl
  unfold strayB unusedB
  rw [e1, e2, e3, absB_eq, absB_eq]
  unfold uI rangeB
  generalize strayA c = A
  generalize uP c = P
  generalize uW c = W
  generalize uE c = E
  generalize strayI c = I
  generalize colsB c = K
  generalize decide (0 < c.items.length) = X
  generalize decide (0 < c.order.length) = Y
  generalize decide (0 < c.skip) = S
  generalize decide (0 < c.limit) = L
  generalize decide (c.skip < -1) = s
  generalize decide (c.limit < -1) = l
  generalize decide (1000000000000000 < c.skip) = S2
  generalize decide (1000000000000000 < c.limit) = L2
  cases A
  case true => simp
  cases P
  case true => simp
  cases W
  case true => simp
  cases E
  case true => simp
  cases I
  case true => simp
  cases s
  case true => simp
  cases l
  case true => simp
  cases S2
  case true => simp
  cases L2
  case true => simp
  cases K <;> cases X <;> cases Y <;> cases S <;> cases L <;> rfl
theorem keep_foldl {α : Type} {f : Int → α → Int} (h : ∀ x a, x ≠ 0 → f x a = x) {x : Int} (hx : x ≠ 0) : ∀ l : List α, l.foldl f x = x
  | [] => rfl
  | a :: r => by rw [List.foldl_cons, h x a hx, keep_foldl h hx r]
theorem keep_add {x e : Int} (h : x ≠ 0) : addE x e = x := by unfold addE; rw [if_neg h]
theorem add_zero (e : Int) : addE 0 e = e := rfl
theorem kPath (k : Int) : ∀ (x : Int) (a : PathPat), x ≠ 0 → pathS k x a = x := fun x a h => keep_add h
theorem kExpr : ∀ (x : Int) (a : Expr), x ≠ 0 → exprS x a = x := fun x a h => keep_add h
theorem kItem : ∀ (x : Int) (a : Item), x ≠ 0 → itemS x a = x := fun x a h => by unfold itemS; rw [keep_add h, keep_add h]
theorem kSort : ∀ (x : Int) (a : SortK), x ≠ 0 → sortS x a = x := fun x a h => keep_add h
theorem kSet : ∀ (x : Int) (a : SetI), x ≠ 0 → setS x a = x := fun x a h => keep_add h
theorem kName : ∀ (x : Int) (a : ByteArray), x ≠ 0 → nameS x a = x := fun x a h => keep_add h
theorem pc6 {c : Clause} {e : Int} (h : c.sets.foldl setS (c.order.foldl sortS (c.items.foldl itemS (partsB c))) = e) (he : e ≠ 0) : partsC c = e := by
  unfold partsC; rw [h, keep_foldl kName he]
theorem pc5 {c : Clause} {e : Int} (h : c.order.foldl sortS (c.items.foldl itemS (partsB c)) = e) (he : e ≠ 0) : partsC c = e := pc6 (by rw [h, keep_foldl kSet he]) he
theorem pc4 {c : Clause} {e : Int} (h : c.items.foldl itemS (partsB c) = e) (he : e ≠ 0) : partsC c = e := pc5 (by rw [h, keep_foldl kSort he]) he
theorem pc3 {c : Clause} {e : Int} (h : partsB c = e) (he : e ≠ 0) : partsC c = e := pc4 (by rw [h, keep_foldl kItem he]) he
theorem pc2 {c : Clause} {e : Int} (h : partsA c = e) (he : e ≠ 0) : partsC c = e := pc3 (by unfold partsB; rw [h]; split; rw [keep_add he, keep_add he]; rfl) he
theorem pc1 {c : Clause} {e : Int} (h : c.paths.foldl (pathS c.kind) 0 = e) (he : e ≠ 0) : partsC c = e := pc2 (by unfold partsA; rw [h, keep_foldl kExpr he]) he
theorem names_fold : ∀ l : List ByteArray, l.foldl nameS 0 = if l.all wordB = true then 0 else 6
  | [] => rfl
  | s :: r => by
    rw [List.foldl_cons, List.all_cons]
    have e : nameS 0 s = needE s := rfl
    rw [e]
    unfold needE
    cases h : wordB s
    · rw [if_neg (by simp), keep_foldl kName (by decide)]
      simp
    · rw [if_pos rfl, names_fold r]
      simp
section
variable {m : Int}
noncomputable def CUn (m : Int) : Ctx := mkC Tryz.prog (G m) [(93, .pure sZE)]
@[simp] theorem CUn_P (m : Int) : (CUn m).P = Tryz.prog := rfl
@[simp] theorem CUn_1 (m : Int) : (CUn m).S 93 = .pure sZE := rfl
theorem mixCUn (m : Int) : (CUn m).P.follows .mixedOrders = true := mixed
theorem sigCUn (m : Int) : SigOK (CUn m) := sigOK_cons (entryPure noneR Tryz.func93 rfl (by decide)) (sigOK_nil _ _)
def uS (c : Clause) (t : Nat) (b : Bool) : ASt := ⟨[(1, .ptr 0 1 21 0 0), (3, .int .i64 c.kind), (4, .bool (colsB c)), (t, .bool b)], [CB c]⟩
def sUnused : List AV → Option (Prop × AV) := spec1 (fun (_ : Clause) => True) (fun c => .bool (unusedB c))
set_option maxHeartbeats 16000000 in
theorem unusedR : PureOK Tryz.prog (G m) 63 sUnused := by
  refine pure1W (C := CUn m) Tryz.func63 rfl rfl rfl (by decide) (fun c _ => ?_)
  refine AW_seq (avc_sound (sigCUn m) (mixCUn m) _ (by kernel_rfl) ?_)
  simp
  refine AW_seq (avc_sound (sigCUn m) (mixCUn m) _ (by kernel_rfl) ?_)
  simp
  refine AW_cut (uS c 4 (colsB c)) (avc_sound (sigCUn m) (mixCUn m) _ (by kernel_rfl) ?_) ?_
  · rcases em2 (c.kind = 3) with k3 | k3 <;> rcases em2 (c.kind = 4) with k4 | k4 <;> simp [k3, k4] <;> exact weak_slots (by simp [uS, CB, colsB, isK, k3, k4])
  refine AW_seq (AW_cut (uS c 30 (strayA c)) (avc_sound (sigCUn m) (mixCUn m) _ (by kernel_rfl) ?_) ?_)
  · rcases em2 (c.kind = 1) with k1 | k1 <;> rcases em2 (c.kind = 8) with k8 | k8 <;> cases ho : c.opt <;> cases hd : c.dist <;> cases hc : colsB c <;> simp [uS, CB, k1, k8, ho, hd, hc] <;> exact weak_slots (by simp [strayA, isK, k1, k8, ho, hd, hc])
  refine AW_cond (strayA c) (by simp [uS]) (fun h1 => avc_sound (sigCUn m) (mixCUn m) _ (by kernel_rfl) ?_) (fun h1 => avc_sound (sigCUn m) (mixCUn m) _ (by kernel_rfl) ?_)
  · simp [uS, CB, unusedB, h1]
  simp
  refine AW_seq (AW_cut (uS c 46 (uP c)) (avc_sound (sigCUn m) (mixCUn m) _ (by kernel_rfl) ?_) ?_)
  · rcases em2 (0 < c.paths.length) with h0 | h0 <;> rcases em2 (c.kind = 1) with k1 | k1 <;> rcases em2 (c.kind = 5) with k5 | k5 <;> rcases em2 (c.kind = 6) with k6 | k6 <;> simp [uS, CB, h0, k1, k5, k6] <;> exact weak_slots (by simp [uP, isK, h0, k1, k5, k6])
  refine AW_cond (uP c) (by simp [uS]) (fun h2 => avc_sound (sigCUn m) (mixCUn m) _ (by kernel_rfl) ?_) (fun h2 => avc_sound (sigCUn m) (mixCUn m) _ (by kernel_rfl) ?_)
  · simp [uS, CB, unusedB, h2]
  simp
  refine AW_seq (AW_cut (uS c 58 (uW c)) (avc_sound (sigCUn m) (mixCUn m) _ (by kernel_rfl) ?_) ?_)
  · rcases em2 (0 < c.wh.length) with h0 | h0 <;> rcases em2 (c.kind = 1) with k1 | k1 <;> rcases em2 (c.kind = 3) with k3 | k3 <;> simp [uS, CB, h0, k1, k3] <;> exact weak_slots (by simp [uW, isK, h0, k1, k3])
  refine AW_cond (uW c) (by simp [uS]) (fun h3 => avc_sound (sigCUn m) (mixCUn m) _ (by kernel_rfl) ?_) (fun h3 => avc_sound (sigCUn m) (mixCUn m) _ (by kernel_rfl) ?_)
  · simp [uS, CB, unusedB, h3]
  simp
  refine AW_seq (AW_cut (uS c 71 (uE c)) (avc_sound (sigCUn m) (mixCUn m) _ (by kernel_rfl) ?_) ?_)
  · rcases em2 (c.kind = 2) with k2 | k2 <;> cases hz : zeroE c.e <;> rcases em2 (c.name = ⟨#[]⟩) with hn | hn <;> simp [uS, CB, sZE, k2, hz, hn] <;> exact weak_slots (by simp [uE, isK, k2, hz, hn])
  refine AW_cond (uE c) (by simp [uS]) (fun h4 => avc_sound (sigCUn m) (mixCUn m) _ (by kernel_rfl) ?_) (fun h4 => avc_sound (sigCUn m) (mixCUn m) _ (by kernel_rfl) ?_)
  · simp [uS, CB, unusedB, h4]
  simp
  refine AW_seq (AW_cut (uS c 95 (uI c)) (avc_sound (sigCUn m) (mixCUn m) _ (by kernel_rfl) ?_) ?_)
  · cases hc : colsB c <;> rcases em2 (0 < c.items.length) with x1 | x1 <;> rcases em2 (0 < c.order.length) with x2 | x2 <;> rcases em2 (0 < c.skip) with x3 | x3 <;> rcases em2 (0 < c.limit) with x4 | x4 <;> simp [uS, CB, hc, x1, x2, x3, x4] <;> exact weak_slots (by simp [uI, hc, x1, x2, x3, x4])
  refine AW_cond (uI c) (by simp [uS]) (fun h5 => avc_sound (sigCUn m) (mixCUn m) _ (by kernel_rfl) ?_) (fun h5 => avc_sound (sigCUn m) (mixCUn m) _ (by kernel_rfl) ?_)
  · simp [uS, CB, unusedB, h5]
  simp
  refine avc_sound (sigCUn m) (mixCUn m) _ (by kernel_rfl) ?_
  rcases em2 (c.sets = []) with y1 | y1 <;> rcases em2 (c.names = []) with y2 | y2 <;> rcases em2 (c.kind = 7) with k7 | k7 <;> rcases em2 (c.kind = 8) with k8 | k8 <;> simp [uS, CB, unusedB, strayI, isK, List.length_pos_iff, h1, h2, h3, h4, h5, y1, y2, k7, k8]
def sCounts : List AV → Option (Prop × AV) := spec1 (fun (_ : Clause) => True) (fun c => .bool (!crowdB c))
set_option maxHeartbeats 8000000 in
theorem countsR : PureOK Tryz.prog (G m) 64 sCounts := by
  refine pure1 (C := CE m) (sigCE m) (mixCE m) Tryz.func64 rfl rfl rfl (by kernel_rfl) (by decide) (fun c _ => ?_)
  obtain ⟨k, o, d, ps, wh, e, nm, its, ord, sk, lim, sets, nms⟩ := c
  have hw : (decide ((1 : Int) < wh.length)) = !decide ((wh.length : Int) ≤ 1) := by by_cases h : (wh.length : Int) ≤ 1 <;> simp [h] <;> omega
  have hw2 : (decide ((16 : Int) < ord.length)) = !decide ((ord.length : Int) ≤ 16) := by by_cases h : (ord.length : Int) ≤ 16 <;> simp [h] <;> omega
  by_cases h1 : k = 1
  · subst h1
    rcases em2 ((1 : Int) ≤ ps.length) with a | a <;> rcases em2 ((ps.length : Int) ≤ 6) with b | b <;> rcases em2 ((wh.length : Int) ≤ 1) with x | x <;> simp [crowdB, inRg, hw, a, b, x]
  by_cases h5 : k = 5
  · subst h5
    rcases em2 ((1 : Int) ≤ ps.length) with a | a <;> rcases em2 ((ps.length : Int) ≤ 6) with b | b <;> rcases em2 ((wh.length : Int) ≤ 1) with x | x <;> simp [crowdB, inRg, hw, a, b, x]
  by_cases h6 : k = 6
  · subst h6
    by_cases h' : ps.length = 1
    · simp [crowdB, h']
    · have h'' : ¬ (ps.length : Int) = 1 := by omega
      simp [crowdB, h', h'']
  by_cases h3 : k = 3
  · subst h3
    rcases em2 ((1 : Int) ≤ its.length) with a | a <;> rcases em2 ((its.length : Int) ≤ 16) with b | b <;> rcases em2 ((ord.length : Int) ≤ 16) with y | y <;> rcases em2 ((wh.length : Int) ≤ 1) with x | x <;> simp [crowdB, inRg, hw, hw2, a, b, x, y]
  by_cases h4 : k = 4
  · subst h4
    rcases em2 ((1 : Int) ≤ its.length) with a | a <;> rcases em2 ((its.length : Int) ≤ 16) with b | b <;> rcases em2 ((ord.length : Int) ≤ 16) with y | y <;> rcases em2 ((wh.length : Int) ≤ 1) with x | x <;> simp [crowdB, inRg, hw, hw2, a, b, x, y]
  by_cases h7 : k = 7
  · subst h7
    rcases em2 ((1 : Int) ≤ sets.length) with a | a <;> rcases em2 ((sets.length : Int) ≤ 16) with b | b <;> simp [crowdB, inRg, a, b]
  by_cases h8 : k = 8
  · subst h8
    rcases em2 ((1 : Int) ≤ nms.length) with a | a <;> rcases em2 ((nms.length : Int) ≤ 16) with b | b <;> simp [crowdB, inRg, a, b]
  simp [crowdB, h1, h5, h6, h3, h4, h7, h8]
end
end Go.Proofs.YtgjljfbohpnfcaaGreat


namespace Go.Proofs.YtgjljfbohpnfcaaGreat
open Go.RowKit
set_option linter.unusedSimpArgs false
set_option linter.unusedVariables false
set_option maxRecDepth 100000
def VS (v : List Cnt) : Blk := ⟨48, 2, encRows v, true, true⟩
def SS (o : List Cnt) (l n : Nat) (k e : Int) : Blk := ⟨79, 4, [[.slice 2 false (encRows o), .own l n, .int .i64 k, .int .i64 e]], true, false⟩
def KSt : BK2 Rs where
  raw s := [.slice 2 false (encRows s.old), .own 1 s.vars.length, .int .i64 s.kind, .int .i64 s.e]
  V s := VS s.vars
  n s := s.vars.length
  un a b := match a.rows with
    | [[o, _, .int _ k, .int _ e]] => ⟨Enc.dec o, Enc.dec (.slice 2 false b.rows), k, e⟩
    | _ => ⟨[], [], 0, 0⟩
  pos a := match a.rows with
    | [[_, .own l _, _, _]] => l
    | _ => 0
  sz := 4
  e := 79
  vsz := 2
  ve := 48
  hraw s c h := by
    simp only [List.mem_cons, List.not_mem_nil, or_false] at h
    rcases h with rfl | rfl | rfl | rfl
    · exact .inl rfl
    · exact .inr rfl
    · exact .inl rfl
    · exact .inl rfl
  hdeep _ := rfl
  hmu _ := rfl
  hsz _ := rfl
  he _ := rfl
  un_B s l := by
    have h1 : (Enc.dec (.slice 2 false (encRows s.old)) : List Cnt) = s.old := Enc.dec_enc s.old
    have h2 : (Enc.dec (.slice 2 false (encRows s.vars)) : List Cnt) = s.vars := Enc.dec_enc s.vars
    simp only [List.map_cons, List.map_nil, reown, VS, h1, h2]
  pos_B s l := rfl
theorem KSt_A (s : Rs) (l : Nat) : KSt.A s l = SS s.old l s.vars.length s.kind s.e := rfl
theorem KSt_V (s : Rs) : KSt.V s = VS s.vars := rfl
@[simp] theorem Rs.eta (s : Rs) : Rs.mk s.old s.vars s.kind s.e = s := rfl
def OKR (s : Rs) : Prop := s.old.length ≤ 24 ∧ s.vars.length ≤ 24
theorem OKR.fail {s : Rs} (h : OKR s) (e : Int) : OKR (s.fail e) := by unfold OKR; rw [Rs.fail_old, Rs.fail_vars]; exact h
theorem OKR.intro {s : Rs} (h : OKR s) (n : ByteArray) (k : Int) : OKR (s.intro n k) := by
  unfold Rs.intro
  dsimp only
  by_cases h0 : 24 ≤ s.vars.length
  · rw [if_pos h0]
    by_cases h1 : s.e = 0
    · have : (s.fail 4).e ≠ 0 := by rw [Rs.fail_zero h1]; show (4 : Int) ≠ 0; decide
      rw [if_neg this]
      exact h.fail 4
    · rw [Rs.fail_ne h1, if_neg h1]
      exact h
  · rw [if_neg h0]
    split
    · refine ⟨h.1, ?_⟩
      show (s.vars ++ [_]).length ≤ 24
      simp
      omega
    · exact h
def fFailR : List AV → Option ((Rs → Prop) × (Rs → Rs))
  | [.int .i64 e] => some (fun _ => True, fun s => s.fail e)
  | _ => none
def fIntroR : List AV → Option ((Rs → Prop) × (Rs → Rs))
  | [.str n, .int .i64 k] => some (fun s => OKR s, fun s => s.intro n k)
  | _ => none
def fElementR : List AV → Option ((Rs → Prop) × (Rs → Rs))
  | [.str n, .bool k] => some (fun s => OKR s, fun s => s.element n k)
  | _ => none
def fCheckR : List AV → Option ((Rs → Prop) × (Rs → Rs))
  | [a, .own 1 n, .bool w] => some (fun s => s.vars.length ≤ 24 ∧ a = Enc.enc (Enc.dec a : Expr) ∧ GoodE (Enc.dec a), fun s => s.fail (checkX s.vars (Enc.dec a) w))
  | [a, .slice z f r, .bool w] => some (fun s => AV.slice z f r = Enc.enc (Enc.dec (.slice z f r) : List Cnt) ∧ (Enc.dec (.slice z f r) : List Cnt).length ≤ 24 ∧ a = Enc.enc (Enc.dec a : Expr) ∧ GoodE (Enc.dec a), fun s => s.fail (checkX (Enc.dec (.slice z f r)) (Enc.dec a) w))
  | _ => none
def gFailR := gM2 KSt fFailR
def gIntroR := gM2 KSt fIntroR
def gElementR := gM2 KSt fElementR
def gCheckR := gM2 KSt fCheckR
theorem gFailR_l {o v : List Cnt} {k x : Int} {Z : List Blk} {e : Int} : gFailR [.ptr 0 1 4 0 0, .int .i64 e] (⟨79, 4, [[.slice 2 false (encRows o), .own 1 v.length, .int .i64 k, .int .i64 x]], true, false⟩ :: ⟨48, 2, encRows v, true, true⟩ :: Z) = some (True, .tup [], KSt.A (Rs.fail ⟨o, v, k, x⟩ e) 1 :: KSt.V (Rs.fail ⟨o, v, k, x⟩ e) :: Z) := by
  have h := gM2_eq KSt (f := fFailR) (p := 0) (l := 1) (rest := [.int .i64 e]) (s := ⟨o, v, k, x⟩) (H := KSt.A ⟨o, v, k, x⟩ 1 :: KSt.V ⟨o, v, k, x⟩ :: Z) rfl rfl rfl
  simp [AV.deepArg, AV.isDeep] at h
  exact h
theorem gIntroR_l {o v : List Cnt} {k x : Int} {Z : List Blk} {n : ByteArray} {e : Int} : gIntroR [.ptr 0 1 4 0 0, .str n, .int .i64 e] (⟨79, 4, [[.slice 2 false (encRows o), .own 1 v.length, .int .i64 k, .int .i64 x]], true, false⟩ :: ⟨48, 2, encRows v, true, true⟩ :: Z) = some (OKR ⟨o, v, k, x⟩, .tup [], KSt.A (Rs.intro ⟨o, v, k, x⟩ n e) 1 :: KSt.V (Rs.intro ⟨o, v, k, x⟩ n e) :: Z) := by
  have h := gM2_eq KSt (f := fIntroR) (p := 0) (l := 1) (rest := [.str n, .int .i64 e]) (s := ⟨o, v, k, x⟩) (H := KSt.A ⟨o, v, k, x⟩ 1 :: KSt.V ⟨o, v, k, x⟩ :: Z) rfl rfl rfl
  simp [AV.deepArg, AV.isDeep] at h
  exact h
section
variable {m : Int}
set_option maxHeartbeats 4000000 in
theorem failR : GenOK Tryz.prog (G m) 45 gFailR := by
  refine gen_frame2 KSt (gen_of_avcH (C := C0 m) (sigC0 m) (mixC0 m) [] Tryz.func45 rfl rfl rfl (by kernel_rfl) (fun avs H ob r H' h hob => ?_))
  obtain ⟨rest, s, p, st, rfl, rfl, hf, hp, rfl, rfl, hd⟩ := gM2c_inv KSt h hob
  unfold fFailR at hf
  split at hf
  case h_2 => cases hf
  rename_i e
  simp only [Option.some.injEq, Prod.mk.injEq] at hf
  obtain ⟨rfl, rfl⟩ := hf
  refine ⟨(by show 2 ≤ _; decide), ?_⟩
  show avcH _ _ _ _ _ ⟨argsρ 0 [.ptr 0 1 4 0 0, .int .i64 e], [SS s.old 1 s.vars.length s.kind s.e, VS s.vars]⟩ (wEnd _ _ _ fun ex st' => _ ∧ ∃ ob', _ ∧ _ ∧ st'.H = [KSt.A (s.fail e) 1, KSt.V (s.fail e)])
  rw [KSt_A, KSt_V]
  rcases em2 (s.e = 0) with h0 | h0
  · rw [show s.fail e = { s with e := e } from by unfold Rs.fail; rw [if_pos (of_eq_true h0)]]
    simp [argsρ, SS, VS, h0]
    (refine ⟨_, Weak.refl _, ?_⟩; first | exact ⟨.inl rfl, ⟨True, trivial⟩, by simp [KSt_A, KSt_V, SS, VS]⟩ | exact ⟨.inl rfl, True, rfl, trivial, by simp [KSt_A, KSt_V, SS, VS]⟩ | exact ⟨.inr rfl, ⟨True, trivial⟩, by simp [KSt_A, KSt_V, SS, VS]⟩ | exact ⟨.inr rfl, True, rfl, trivial, by simp [KSt_A, KSt_V, SS, VS]⟩)
  · rw [Rs.fail_ne (of_eq_false h0)]
    simp [argsρ, SS, VS, h0]
    (refine ⟨_, Weak.refl _, ?_⟩; first | exact ⟨.inl rfl, ⟨True, trivial⟩, by simp [KSt_A, KSt_V, SS, VS]⟩ | exact ⟨.inl rfl, True, rfl, trivial, by simp [KSt_A, KSt_V, SS, VS]⟩ | exact ⟨.inr rfl, ⟨True, trivial⟩, by simp [KSt_A, KSt_V, SS, VS]⟩ | exact ⟨.inr rfl, True, rfl, trivial, by simp [KSt_A, KSt_V, SS, VS]⟩)
noncomputable def CInR (m : Int) : Ctx := mkC Tryz.prog (G m) [(45, .gen gFailR)]
@[simp] theorem CInR_P (m : Int) : (CInR m).P = Tryz.prog := rfl
@[simp] theorem CInR_G (m : Int) : (CInR m).G = (G m) := rfl
@[simp] theorem CInR_1 (m : Int) : (CInR m).S 45 = .gen gFailR := rfl
theorem mixCInR (m : Int) : (CInR m).P.follows .mixedOrders = true := mixed
theorem sigCInR (m : Int) : SigOK (CInR m) := sigOK_cons (entryGen (failR) Tryz.func45 rfl (by decide)) (sigOK_nil _ _)
set_option maxHeartbeats 4000000 in
theorem introR : GenOK Tryz.prog (G m) 46 gIntroR := by
  refine gen_frame2 KSt (gen_of_avcH (C := CInR m) (sigCInR m) (mixCInR m) [] Tryz.func46 rfl rfl rfl (by kernel_rfl) (fun avs H ob r H' h hob => ?_))
  obtain ⟨rest, s, p, st, rfl, rfl, hf, hp, rfl, rfl, hd⟩ := gM2c_inv KSt h hob
  unfold fIntroR at hf
  split at hf
  case h_2 => cases hf
  rename_i name k
  simp only [Option.some.injEq, Prod.mk.injEq] at hf
  obtain ⟨rfl, rfl⟩ := hf
  refine ⟨(by show 3 ≤ _; decide), ?_⟩
  show avcH _ _ _ _ _ ⟨argsρ 0 [.ptr 0 1 4 0 0, .str name, .int .i64 k], [SS s.old 1 s.vars.length s.kind s.e, VS s.vars]⟩ (wEnd _ _ _ fun ex st' => _ ∧ ∃ ob', _ ∧ _ ∧ st'.H = [KSt.A (s.intro name k) 1, KSt.V (s.intro name k)])
  rw [KSt_A, KSt_V]
  have hl := hp.2
  obtain ⟨r, hr⟩ : ∃ r, s.intro name k = r := ⟨_, rfl⟩
  rw [hr]
  unfold Rs.intro at hr
  dsimp only at hr
  by_cases h0 : 24 ≤ s.vars.length
  · have h1 : (24 : Int) ≤ s.vars.length := by omega
    rw [if_pos h0] at hr
    have hne : (s.fail 4).e ≠ 0 := by
      by_cases h2 : s.e = 0
      · rw [Rs.fail_zero h2]; show (4 : Int) ≠ 0; decide
      · rw [Rs.fail_ne h2]; exact h2
    rw [if_neg hne] at hr
    subst hr
    simp [argsρ, SS, VS, h1, h0, gFailR_l, KSt_A, KSt_V, hne]
    (refine ⟨_, Weak.refl _, ?_⟩; first | exact ⟨.inl rfl, ⟨True, trivial⟩, by simp [KSt_A, KSt_V, SS, VS]⟩ | exact ⟨.inl rfl, True, rfl, trivial, by simp [KSt_A, KSt_V, SS, VS]⟩ | exact ⟨.inr rfl, ⟨True, trivial⟩, by simp [KSt_A, KSt_V, SS, VS]⟩ | exact ⟨.inr rfl, True, rfl, trivial, by simp [KSt_A, KSt_V, SS, VS]⟩)
  · have h1 : ¬ (24 : Int) ≤ s.vars.length := by omega
    rw [if_neg h0] at hr
    by_cases h2 : s.e = 0
    · rw [if_pos h2] at hr
      subst hr
      simp [argsρ, SS, VS, h1, h0, h2]
      refine ⟨by omega, ?_⟩
      have hap : encRows s.vars ++ [[AV.str name, AV.int .i64 k]] = encRows (s.vars ++ [⟨name, k⟩]) := by rw [encRows_append]; rfl
      rw [hap]
      (refine ⟨_, Weak.refl _, ?_⟩; first | exact ⟨.inl rfl, ⟨True, trivial⟩, by simp [KSt_A, KSt_V, SS, VS]⟩ | exact ⟨.inl rfl, True, rfl, trivial, by simp [KSt_A, KSt_V, SS, VS]⟩ | exact ⟨.inr rfl, ⟨True, trivial⟩, by simp [KSt_A, KSt_V, SS, VS]⟩ | exact ⟨.inr rfl, True, rfl, trivial, by simp [KSt_A, KSt_V, SS, VS]⟩)
    · rw [if_neg h2] at hr
      subst hr
      simp [argsρ, SS, VS, h1, h0, h2]
      (refine ⟨_, Weak.refl _, ?_⟩; first | exact ⟨.inl rfl, ⟨True, trivial⟩, by simp [KSt_A, KSt_V, SS, VS]⟩ | exact ⟨.inl rfl, True, rfl, trivial, by simp [KSt_A, KSt_V, SS, VS]⟩ | exact ⟨.inr rfl, ⟨True, trivial⟩, by simp [KSt_A, KSt_V, SS, VS]⟩ | exact ⟨.inr rfl, True, rfl, trivial, by simp [KSt_A, KSt_V, SS, VS]⟩)
noncomputable def CElR (m : Int) : Ctx := mkC Tryz.prog (G m) [(45, .gen gFailR), (21, .pure sKind)]
@[simp] theorem CElR_P (m : Int) : (CElR m).P = Tryz.prog := rfl
@[simp] theorem CElR_G (m : Int) : (CElR m).G = (G m) := rfl
@[simp] theorem CElR_1 (m : Int) : (CElR m).S 45 = .gen gFailR := rfl
@[simp] theorem CElR_2 (m : Int) : (CElR m).S 21 = .pure sKind := rfl
theorem mixCElR (m : Int) : (CElR m).P.follows .mixedOrders = true := mixed
theorem sigCElR (m : Int) : SigOK (CElR m) := sigOK_cons (entryGen (failR) Tryz.func45 rfl (by decide)) (sigOK_cons (entryPure (kindR) Tryz.func21 rfl (by decide)) (sigOK_nil _ _))
set_option maxHeartbeats 4000000 in
theorem elementR : GenOK Tryz.prog (G m) 48 gElementR := by
  refine gen_frame2 KSt (gen_of_avcH (C := CElR m) (sigCElR m) (mixCElR m) [] Tryz.func48 rfl rfl rfl (by kernel_rfl) (fun avs H ob r H' h hob => ?_))
  obtain ⟨rest, s, p, st, rfl, rfl, hf, hp, rfl, rfl, hd⟩ := gM2c_inv KSt h hob
  unfold fElementR at hf
  split at hf
  case h_2 => cases hf
  rename_i name k
  simp only [Option.some.injEq, Prod.mk.injEq] at hf
  obtain ⟨rfl, rfl⟩ := hf
  refine ⟨(by show 3 ≤ _; decide), ?_⟩
  show avcH _ _ _ _ _ ⟨argsρ 0 [.ptr 0 1 4 0 0, .str name, .bool k], [SS s.old 1 s.vars.length s.kind s.e, VS s.vars]⟩ (wEnd _ _ _ fun ex st' => _ ∧ ∃ ob', _ ∧ _ ∧ st'.H = [KSt.A (s.element name k) 1, KSt.V (s.element name k)])
  rw [KSt_A, KSt_V]
  have hl := len24 hp.2
  obtain ⟨r, hr⟩ : ∃ r, s.element name k = r := ⟨_, rfl⟩
  rw [hr]
  unfold Rs.element at hr
  dsimp only at hr
  by_cases h0 : kindF s.vars name = 0
  · obtain ⟨s1, hs1⟩ : ∃ s1, s.fail 6 = s1 := ⟨_, rfl⟩
    rw [if_pos h0, if_pos (by simp [h0]), hs1] at hr
    simp [argsρ, SS, VS, sKind, hl, h0, gFailR_l, hs1, hr, KSt_A, KSt_V]
    (refine ⟨_, Weak.refl _, ?_⟩; first | exact ⟨.inl rfl, ⟨True, trivial⟩, by simp [KSt_A, KSt_V, SS, VS]⟩ | exact ⟨.inl rfl, True, rfl, trivial, by simp [KSt_A, KSt_V, SS, VS]⟩ | exact ⟨.inr rfl, ⟨True, trivial⟩, by simp [KSt_A, KSt_V, SS, VS]⟩ | exact ⟨.inr rfl, True, rfl, trivial, by simp [KSt_A, KSt_V, SS, VS]⟩)
  rw [if_neg h0] at hr
  by_cases h1 : kindF s.vars name = 1
  · rw [if_neg (by simp [h1])] at hr
    subst hr
    simp [argsρ, SS, VS, sKind, hl, h1, gFailR_l, KSt_A, KSt_V]
    (refine ⟨_, Weak.refl _, ?_⟩; first | exact ⟨.inl rfl, ⟨True, trivial⟩, by simp [KSt_A, KSt_V, SS, VS]⟩ | exact ⟨.inl rfl, True, rfl, trivial, by simp [KSt_A, KSt_V, SS, VS]⟩ | exact ⟨.inr rfl, ⟨True, trivial⟩, by simp [KSt_A, KSt_V, SS, VS]⟩ | exact ⟨.inr rfl, True, rfl, trivial, by simp [KSt_A, KSt_V, SS, VS]⟩)
  by_cases h2 : kindF s.vars name = 2
  · cases k
    · rw [if_neg (by simp [h2])] at hr
      subst hr
      simp [argsρ, SS, VS, sKind, hl, h2, gFailR_l, KSt_A, KSt_V]
      (refine ⟨_, Weak.refl _, ?_⟩; first | exact ⟨.inl rfl, ⟨True, trivial⟩, by simp [KSt_A, KSt_V, SS, VS]⟩ | exact ⟨.inl rfl, True, rfl, trivial, by simp [KSt_A, KSt_V, SS, VS]⟩ | exact ⟨.inr rfl, ⟨True, trivial⟩, by simp [KSt_A, KSt_V, SS, VS]⟩ | exact ⟨.inr rfl, True, rfl, trivial, by simp [KSt_A, KSt_V, SS, VS]⟩)
    · rw [if_pos ⟨h1, .inr rfl⟩] at hr
      subst hr
      simp [argsρ, SS, VS, sKind, hl, h2, gFailR_l, KSt_A, KSt_V]
      (refine ⟨_, Weak.refl _, ?_⟩; first | exact ⟨.inl rfl, ⟨True, trivial⟩, by simp [KSt_A, KSt_V, SS, VS]⟩ | exact ⟨.inl rfl, True, rfl, trivial, by simp [KSt_A, KSt_V, SS, VS]⟩ | exact ⟨.inr rfl, ⟨True, trivial⟩, by simp [KSt_A, KSt_V, SS, VS]⟩ | exact ⟨.inr rfl, True, rfl, trivial, by simp [KSt_A, KSt_V, SS, VS]⟩)
  · rw [if_pos ⟨h1, .inl h2⟩] at hr
    subst hr
    simp [argsρ, SS, VS, sKind, hl, h0, h1, h2, gFailR_l, KSt_A, KSt_V]
    (refine ⟨_, Weak.refl _, ?_⟩; first | exact ⟨.inl rfl, ⟨True, trivial⟩, by simp [KSt_A, KSt_V, SS, VS]⟩ | exact ⟨.inl rfl, True, rfl, trivial, by simp [KSt_A, KSt_V, SS, VS]⟩ | exact ⟨.inr rfl, ⟨True, trivial⟩, by simp [KSt_A, KSt_V, SS, VS]⟩ | exact ⟨.inr rfl, True, rfl, trivial, by simp [KSt_A, KSt_V, SS, VS]⟩)
end
end Go.Proofs.YtgjljfbohpnfcaaGreat


namespace Go.Proofs.YtgjljfbohpnfcaaGreat
open Go.RowKit
set_option linter.unusedSimpArgs false
set_option linter.unusedVariables false
set_option maxRecDepth 100000
theorem Rs.fail_eq (s : Rs) (e : Int) : s.fail e = ⟨s.old, s.vars, s.kind, addE s.e e⟩ := by
  unfold Rs.fail addE
  by_cases h : s.e = 0
  · rw [if_pos h, if_pos h]
  · rw [if_neg h, if_neg h]
theorem gFailR_x {o v : List Cnt} {k x : Int} {Z : List Blk} {e : Int} : gFailR [.ptr 0 1 4 0 0, .int .i64 e] (⟨79, 4, [[.slice 2 false (encRows o), .own 1 v.length, .int .i64 k, .int .i64 x]], true, false⟩ :: ⟨48, 2, encRows v, true, true⟩ :: Z) = some (True, .tup [], ⟨79, 4, [[.slice 2 false (encRows o), .own 1 v.length, .int .i64 k, .int .i64 (addE x e)]], true, false⟩ :: ⟨48, 2, encRows v, true, true⟩ :: Z) := by
  rw [gFailR_l, Rs.fail_eq]
  rfl
theorem badU_take {V : List Cnt} {l : List ByteArray} {i : Nat} (h : i < l.length) : badU V (l.take (i + 1)) = (badU V (l.take i) || decide (kindF V (ix l i) = 0)) := by
  unfold badU
  rw [List.take_succ_eq_append_getElem h, List.any_append, ix_lt h]
  simp
theorem addE_idem (x e : Int) : addE (addE x e) e = addE x e := by
  unfold addE
  repeat' split
  all_goals first | rfl | omega
theorem addE_nil (x : Int) : addE x 0 = x := by
  unfold addE
  split
  · omega
  · rfl
theorem addE_two (x e f : Int) (h : e ≠ 0) : addE (addE x e) f = addE x e := by
  unfold addE
  repeat' split
  all_goals first | rfl | omega
theorem fCheckR_o (e : Expr) (o : List Cnt) (w : Bool) : fCheckR [Enc.enc e, .slice 2 false (encRows o), .bool w] = some (fun _ => o.length ≤ 24 ∧ GoodE e, fun s => s.fail (checkX o e w)) := by
  have e1 : (Enc.dec (Enc.enc e) : Expr) = e := Enc.dec_enc e
  have e2 : (Enc.dec (AV.slice 2 false (encRows o)) : List Cnt) = o := Enc.dec_enc o
  have e3 : (AV.slice 2 false (encRows o) = Enc.enc o) = True := eq_true rfl
  unfold fCheckR
  simp only [e1, e2, e3, true_and]
theorem fCheckR_v (e : Expr) (n : Nat) (w : Bool) : fCheckR [Enc.enc e, .own 1 n, .bool w] = some (fun s => s.vars.length ≤ 24 ∧ GoodE e, fun s => s.fail (checkX s.vars e w)) := by
  have e1 : (Enc.dec (Enc.enc e) : Expr) = e := Enc.dec_enc e
  unfold fCheckR
  simp only [e1, true_and]
theorem chk_none {y : Int} {b : Bool} {P : Prop} [Decidable P] (h : ¬ P) : addE y (if b = true then 6 else if P then 9 else 0) = if b = true then addE y 6 else y := by
  rw [if_neg h]
  split
  · rfl
  · exact addE_nil _
theorem chk_agg {y : Int} {b : Bool} {P : Prop} [Decidable P] (h : P) : addE y (if b = true then 6 else if P then 9 else 0) = addE (if b = true then addE y 6 else y) 9 := by
  rw [if_pos h]
  split
  · exact (addE_two _ _ _ (by decide)).symm
  · rfl
theorem gCheckR_go {p l : Nat} {H : List Blk} {s : Rs} {e : Expr} {w : Bool} (hp : H[p]? = some (KSt.A s l)) (hl : H[l]? = some (KSt.V s)) (hpl : p ≠ l) (o : List Cnt) : gCheckR [.ptr p 1 4 0 0, Enc.enc e, .slice 2 false (encRows o), .bool w] H = some (o.length ≤ 24 ∧ GoodE e, .tup [], (H.set p (KSt.A (s.fail (checkX o e w)) l)).set l (KSt.V (s.fail (checkX o e w)))) := by
  have h := gM2_eq KSt (f := fCheckR) (p := p) (l := l) (rest := [Enc.enc e, .slice 2 false (encRows o), .bool w]) (s := s) (H := H) hp hl (fCheckR_o e o w)
  have e4 : (Enc.enc e).deepArg = true := by rw [enc_expr]; rfl
  have e5 : (AV.slice 2 false (encRows o)).deepArg = true := rfl
  have e6 : (AV.bool w).deepArg = true := rfl
  simp only [List.mem_cons, List.not_mem_nil, or_false, forall_eq_or_imp, forall_eq, e4, e5, e6, true_or, true_and, and_true, hpl, ne_eq, not_false_iff] at h
  exact h
theorem gCheckR_gen {p l : Nat} {H : List Blk} {s : Rs} {e : Expr} {w : Bool} (hp : H[p]? = some (KSt.A s l)) (hl : H[l]? = some (KSt.V s)) (hpl : p ≠ l) : gCheckR [.ptr p 1 4 0 0, Enc.enc e, .own l s.vars.length, .bool w] H = some (s.vars.length ≤ 24 ∧ GoodE e, .tup [], (H.set p (KSt.A (s.fail (checkX s.vars e w)) l)).set l (KSt.V (s.fail (checkX s.vars e w)))) := by
  have h := gM2_eq KSt (f := fCheckR) (p := p) (l := l) (rest := [Enc.enc e, .own l s.vars.length, .bool w]) (s := s) (H := H) hp hl (fCheckR_v e s.vars.length w)
  have e4 : (Enc.enc e).deepArg = true := by rw [enc_expr]; rfl
  have e5 : (AV.own l s.vars.length = AV.own l (KSt.n s)) = True := eq_true rfl
  have e6 : (AV.bool w).deepArg = true := rfl
  simp only [List.mem_cons, List.not_mem_nil, or_false, forall_eq_or_imp, forall_eq, e4, e6, true_or, true_and, and_true, hpl, ne_eq, not_false_iff, e5, or_true] at h
  exact h
theorem gCheckR_o {o v : List Cnt} {k x : Int} {Z : List Blk} {e : Expr} {w : Bool} : gCheckR [.ptr 0 1 4 0 0, .agg [.int .i64 e.op, .int .i64 e.v.kind, .int .i64 e.v.n, .int .i64 e.v.d, .str e.v.s, .slice 5 false (encRows e.v.l), .str e.name, .bool e.dist, .slice 9 false (encRows e.kids)], .slice 2 false (encRows o), .bool w] (⟨79, 4, [[.slice 2 false (encRows o), .own 1 v.length, .int .i64 k, .int .i64 x]], true, false⟩ :: ⟨48, 2, encRows v, true, true⟩ :: Z) = some (o.length ≤ 24 ∧ GoodE e, .tup [], KSt.A (Rs.fail ⟨o, v, k, x⟩ (checkX o e w)) 1 :: KSt.V (Rs.fail ⟨o, v, k, x⟩ (checkX o e w)) :: Z) := by
  have h := gCheckR_go (p := 0) (l := 1) (s := ⟨o, v, k, x⟩) (e := e) (w := w) (H := KSt.A ⟨o, v, k, x⟩ 1 :: KSt.V ⟨o, v, k, x⟩ :: Z) rfl rfl (by decide) o
  rw [enc_expr] at h
  exact h
section
variable {m : Int}
def sHasR : List AV → Option (Prop × AV) := spec1 (fun (e : Expr) => WfE e) (fun e => .bool (aggE e))
noncomputable def CChR (m : Int) : Ctx := mkC Tryz.prog (G m) [(45, .gen gFailR), (21, .pure sKind), (19, .pure sUsesR), (68, .pure sHasR)]
@[simp] theorem CChR_P (m : Int) : (CChR m).P = Tryz.prog := rfl
@[simp] theorem CChR_G (m : Int) : (CChR m).G = (G m) := rfl
@[simp] theorem CChR_1 (m : Int) : (CChR m).S 45 = .gen gFailR := rfl
@[simp] theorem CChR_2 (m : Int) : (CChR m).S 21 = .pure sKind := rfl
@[simp] theorem CChR_3 (m : Int) : (CChR m).S 19 = .pure sUsesR := rfl
@[simp] theorem CChR_4 (m : Int) : (CChR m).S 68 = .pure sHasR := rfl
theorem mixCChR (m : Int) : (CChR m).P.follows .mixedOrders = true := mixed
theorem sigCChR (m : Int) : SigOK (CChR m) := sigOK_cons (entryGen (failR) Tryz.func45 rfl (by decide)) (sigOK_cons (entryPure (kindR) Tryz.func21 rfl (by decide)) (sigOK_cons (entryPure (usesR) Tryz.func19 rfl (by decide)) (sigOK_cons (entryPure (hasR) Tryz.func68 rfl (by decide)) (sigOK_nil _ _))))
theorem fCheckR_inv {rest : List AV} {p : Rs → Prop} {st : Rs → Rs} {s : Rs} (hf : fCheckR rest = some (p, st)) (hp : p s) (hd : ∀ v ∈ rest, v.deepArg = true ∨ v = .own 1 (KSt.n s)) :
    ∃ e va w V, rest = [Enc.enc e, va, .bool w] ∧ st s = s.fail (checkX V e w) ∧ V.length ≤ 24 ∧ GoodE e ∧
      ∀ x Z, view (⟨79, 4, [[.slice 2 false (encRows s.old), .own 1 s.vars.length, .int .i64 s.kind, .int .i64 x]], true, false⟩ :: ⟨48, 2, encRows s.vars, true, true⟩ :: Z) 6 va = .slice 2 false (encRows V) := by
  unfold fCheckR at hf
  split at hf
  · rename_i a n w
    simp only [Option.some.injEq, Prod.mk.injEq] at hf
    obtain ⟨rfl, rfl⟩ := hf
    obtain ⟨h1, h2, h3⟩ := hp
    rcases hd (.own 1 n) (by simp) with h | h
    · cases h
    · injection h with _ h
      refine ⟨Enc.dec a, .own 1 n, w, s.vars, by rw [← h2], rfl, h1, h3, fun x Z => ?_⟩
      have hn : n = s.vars.length := h
      subst hn
      simp [view]
  · rename_i a z f r w
    simp only [Option.some.injEq, Prod.mk.injEq] at hf
    obtain ⟨rfl, rfl⟩ := hf
    obtain ⟨h2, h3, h4, h5⟩ := hp
    generalize (Enc.dec (AV.slice z f r) : List Cnt) = V at *
    refine ⟨Enc.dec a, .slice z f r, w, V, by rw [← h4], rfl, h3, h5, fun x Z => ?_⟩
    rw [h2]
    rfl
  · cases hf
set_option maxHeartbeats 4000000 in
theorem checkRR : GenOK Tryz.prog (G m) 44 gCheckR := by
  refine gen_frame2 KSt (gen_of_avcH (C := CChR m) (sigCChR m) (mixCChR m) [] Tryz.func44 rfl rfl rfl (by kernel_rfl) (fun avs H ob r H' h hob => ?_))
  obtain ⟨rest, s, p, st, rfl, rfl, hf, hp, rfl, rfl, hd⟩ := gM2c_inv KSt h hob
  obtain ⟨e, va, w, V, rfl, hst, hV, hg, hv⟩ := fCheckR_inv hf hp hd
  rw [hst]
  clear hst hf hp hd h hob
  refine ⟨(by show 4 ≤ _; decide), ?_⟩
  show avcH _ _ _ _ _ ⟨argsρ 0 [.ptr 0 1 4 0 0, Enc.enc e, va, .bool w], [SS s.old 1 s.vars.length s.kind s.e, VS s.vars]⟩ (wEnd _ _ _ fun ex st' => _ ∧ ∃ ob', _ ∧ _ ∧ st'.H = [KSt.A (s.fail (checkX V e w)) 1, KSt.V (s.fail (checkX V e w))])
  rw [Rs.fail_eq, KSt_A, KSt_V]
  have hV' := len24 hV
  obtain ⟨hw, hn1, hn2⟩ := hg
  obtain ⟨l, hl⟩ : ∃ l, usesF e = l := ⟨_, rfl⟩
  have hll : l.length ≤ 9223372036854775807 := by rw [← hl]; have := uses_len e; omega
  unfold checkX
  rw [hl]
  simp [argsρ, SS, VS, sUsesR, hw, hn2, hl]
  refine loop_ruleH (C := CChR m) (sigCChR m) (mixCChR m) [] (fun i : Nat => ⟨[(0, .ptr 0 1 4 0 0), (2, va), (3, .bool w), (5, .ptr 2 1 9 0 0), (8, Enc.enc l), (9, .int .i64 i)], [SS s.old 1 s.vars.length s.kind (if badU V (l.take i) = true then addE s.e 6 else s.e), VS s.vars, EB e]⟩) (fun i => i ≤ l.length) (fun i => l.length - i) (by kernel_rfl) ⟨0, Nat.zero_le _, weak_eq (by simp) (by simp [SS, VS, EB, badU])⟩ (fun i hi => ?_)
  obtain ⟨x, hx⟩ : ∃ x, (if badU V (l.take i) = true then addE s.e 6 else s.e) = x := ⟨_, rfl⟩
  by_cases hlt : i < l.length
  · have i1 : I64 ((i : Int) + 1) := by unfold I64; omega
    have ht := badU_take (V := V) hlt
    by_cases h0 : kindF V (ix l i) = 0
    · have hx' : (if badU V (l.take (i + 1)) = true then addE s.e 6 else s.e) = addE x 6 := by
        rw [ht, decide_eq_true h0, Bool.or_true, if_pos rfl, ← hx]
        split
        · rw [addE_idem]
        · rfl
      rw [hx]
      simp [SS, VS, EB, hlt, rowAt_enc hlt, hv, sKind, hV', h0, gFailR_x, i1]
      exact ⟨i + 1, by omega, by omega, weak_eq (by simp) (by simp [SS, VS, EB, hx'])⟩
    · have hx' : (if badU V (l.take (i + 1)) = true then addE s.e 6 else s.e) = x := by
        rw [ht, decide_eq_false h0, Bool.or_false, hx]
      rw [hx]
      simp [SS, VS, EB, hlt, rowAt_enc hlt, hv, sKind, hV', h0, i1]
      exact ⟨i + 1, by omega, by omega, weak_eq (by simp) (by simp [SS, VS, EB, hx'])⟩
  · obtain rfl : i = l.length := by omega
    rw [List.take_length] at hx ⊢
    rw [hx]
    obtain ⟨ag, hag⟩ : ∃ ag, aggE e = ag := ⟨_, rfl⟩
    rw [hag]
    cases ag
    · rw [chk_none (by simp), hx]
      simp [SS, VS, EB, hlt, sHasR, hw, hag]
      (refine ⟨⟨[], _⟩, weak_keep 2 (by simp) (Nat.le_refl _) (by simp) (by simp [SS, VS, AV.clean, AV.clean1]) rfl, ?_⟩; first | exact ⟨.inl rfl, ⟨True, trivial⟩, by simp [KSt_A, KSt_V, SS, VS]⟩ | exact ⟨.inl rfl, True, rfl, trivial, by simp [KSt_A, KSt_V, SS, VS]⟩ | exact ⟨.inr rfl, ⟨True, trivial⟩, by simp [KSt_A, KSt_V, SS, VS]⟩ | exact ⟨.inr rfl, True, rfl, trivial, by simp [KSt_A, KSt_V, SS, VS]⟩)
    by_cases hww : w = true ∧ e.op = 24
    · rw [chk_none (fun q => q.2 hww), hx]
      have ho : (e.op = 24) = True := eq_true hww.2
      simp [SS, VS, EB, hlt, sHasR, hw, hag, hww.1, ho]
      (refine ⟨⟨[], _⟩, weak_keep 2 (by simp) (Nat.le_refl _) (by simp) (by simp [SS, VS, AV.clean, AV.clean1]) rfl, ?_⟩; first | exact ⟨.inl rfl, ⟨True, trivial⟩, by simp [KSt_A, KSt_V, SS, VS]⟩ | exact ⟨.inl rfl, True, rfl, trivial, by simp [KSt_A, KSt_V, SS, VS]⟩ | exact ⟨.inr rfl, ⟨True, trivial⟩, by simp [KSt_A, KSt_V, SS, VS]⟩ | exact ⟨.inr rfl, True, rfl, trivial, by simp [KSt_A, KSt_V, SS, VS]⟩)
    · rw [chk_agg ⟨rfl, hww⟩, hx]
      cases w
      · simp [SS, VS, EB, hlt, sHasR, hw, hag, gFailR_x]
        (refine ⟨⟨[], _⟩, weak_keep 2 (by simp) (Nat.le_refl _) (by simp) (by simp [SS, VS, AV.clean, AV.clean1]) rfl, ?_⟩; first | exact ⟨.inl rfl, ⟨True, trivial⟩, by simp [KSt_A, KSt_V, SS, VS]⟩ | exact ⟨.inl rfl, True, rfl, trivial, by simp [KSt_A, KSt_V, SS, VS]⟩ | exact ⟨.inr rfl, ⟨True, trivial⟩, by simp [KSt_A, KSt_V, SS, VS]⟩ | exact ⟨.inr rfl, True, rfl, trivial, by simp [KSt_A, KSt_V, SS, VS]⟩)
      · have ho : ¬ e.op = 24 := fun q => hww ⟨rfl, q⟩
        simp [SS, VS, EB, hlt, sHasR, hw, hag, ho, gFailR_x]
        (refine ⟨⟨[], _⟩, weak_keep 2 (by simp) (Nat.le_refl _) (by simp) (by simp [SS, VS, AV.clean, AV.clean1]) rfl, ?_⟩; first | exact ⟨.inl rfl, ⟨True, trivial⟩, by simp [KSt_A, KSt_V, SS, VS]⟩ | exact ⟨.inl rfl, True, rfl, trivial, by simp [KSt_A, KSt_V, SS, VS]⟩ | exact ⟨.inr rfl, ⟨True, trivial⟩, by simp [KSt_A, KSt_V, SS, VS]⟩ | exact ⟨.inr rfl, True, rfl, trivial, by simp [KSt_A, KSt_V, SS, VS]⟩)
end
end Go.Proofs.YtgjljfbohpnfcaaGreat


namespace Go.Proofs.YtgjljfbohpnfcaaGreat
open Go.RowKit
set_option linter.unusedSimpArgs false
set_option linter.unusedVariables false
set_option maxRecDepth 100000
theorem Rs.props_take {b : Rs} {l : List PropPat} {i : Nat} (h : i < l.length) : b.props (l.take (i + 1)) = (b.props (l.take i)).fail (checkX (b.props (l.take i)).old (ix l i).e false) := by
  unfold Rs.props
  rw [List.take_succ_eq_append_getElem h, List.foldl_append, ix_lt h]
  rfl
theorem Rs.props_old : ∀ {l : List PropPat} {b : Rs}, (b.props l).old = b.old
  | [], _ => rfl
  | a :: r, b => (Rs.props_old (l := r) (b := b.fail _)).trans (Rs.fail_old _ _)
theorem Rs.props_vars : ∀ {l : List PropPat} {b : Rs}, (b.props l).vars = b.vars
  | [], _ => rfl
  | a :: r, b => (Rs.props_vars (l := r) (b := b.fail _)).trans (Rs.fail_vars _ _)
theorem OKR.props {b : Rs} (h : OKR b) (l : List PropPat) : OKR (b.props l) := by unfold OKR; rw [Rs.props_old, Rs.props_vars]; exact h
theorem OKR.nodeK {s : Rs} (h : OKR s) (n : NodePat) : OKR (s.nodeK n) := by
  unfold Rs.nodeK
  dsimp only
  repeat' split
  all_goals first | exact h | exact h.intro _ _ | exact (h.fail _).fail _ | exact h.fail _
theorem OKR.edgeK {s : Rs} (h : OKR s) (n : EdgePat) : OKR (s.edgeK n) := by
  unfold Rs.edgeK
  dsimp only
  repeat' split
  all_goals first | exact h | exact h.intro _ _ | exact (h.fail _).fail _ | exact h.fail _
theorem OKR.node {s : Rs} (h : OKR s) (n : NodePat) : OKR (s.node n) := (h.nodeK n).props _
theorem OKR.edge {s : Rs} (h : OKR s) (n : EdgePat) : OKR (s.edge n) := (h.edgeK n).props _
def NBk (x : NodePat) : Blk := ⟨64, 3, [[.str x.var, .slice 1 false (encRows x.labels), .slice 10 false (encRows x.props)]], true, true⟩
def GBk (y : EdgePat) : Blk := ⟨67, 7, [[.str y.var, .slice 1 false (encRows y.types), .int .i64 y.dir, .int .i64 y.mode, .int .i64 y.lo, .int .i64 y.hi, .slice 10 false (encRows y.props)]], true, true⟩
def fNodeR : List AV → Option ((Rs → Prop) × (Rs → Rs))
  | [a] => some (fun s => OKR s ∧ a = Enc.enc (Enc.dec a : NodePat) ∧ GoodPr (Enc.dec a : NodePat).props ∧ (Enc.dec a : NodePat).labels.length + (Enc.dec a : NodePat).props.length ≤ maxLen, fun s => s.node (Enc.dec a))
  | _ => none
def fEdgeR : List AV → Option ((Rs → Prop) × (Rs → Rs))
  | [a] => some (fun s => OKR s ∧ a = Enc.enc (Enc.dec a : EdgePat) ∧ GoodPr (Enc.dec a : EdgePat).props, fun s => s.edge (Enc.dec a))
  | _ => none
def gNodeR := gM2 KSt fNodeR
def gEdgeR := gM2 KSt fEdgeR
theorem gNodeR_l {o v : List Cnt} {k x : Int} {Z : List Blk} {y : NodePat} : gNodeR [.ptr 0 1 4 0 0, .agg [.str y.var, .slice 1 false (encRows y.labels), .slice 10 false (encRows y.props)]] (⟨79, 4, [[.slice 2 false (encRows o), .own 1 v.length, .int .i64 k, .int .i64 x]], true, false⟩ :: ⟨48, 2, encRows v, true, true⟩ :: Z) = some (OKR ⟨o, v, k, x⟩ ∧ GoodPr y.props ∧ y.labels.length + y.props.length ≤ maxLen, .tup [], KSt.A (Rs.node ⟨o, v, k, x⟩ y) 1 :: KSt.V (Rs.node ⟨o, v, k, x⟩ y) :: Z) := by
  have h := gM2_eq KSt (f := fNodeR) (p := 0) (l := 1) (rest := [Enc.enc y]) (s := ⟨o, v, k, x⟩) (H := KSt.A ⟨o, v, k, x⟩ 1 :: KSt.V ⟨o, v, k, x⟩ :: Z) rfl rfl rfl
  have e1 : (Enc.dec (Enc.enc y) : NodePat) = y := Enc.dec_enc y
  have e3 : reown 1 (Enc.enc y) = Enc.enc y := rfl
  have e4 : (Enc.enc y).deepArg = true := rfl
  simp only [e1, e3, List.mem_singleton, forall_eq, e4, true_or, and_true, true_and] at h
  simp at h
  exact h
theorem gEdgeR_l {o v : List Cnt} {k x : Int} {Z : List Blk} {y : EdgePat} : gEdgeR [.ptr 0 1 4 0 0, .agg [.str y.var, .slice 1 false (encRows y.types), .int .i64 y.dir, .int .i64 y.mode, .int .i64 y.lo, .int .i64 y.hi, .slice 10 false (encRows y.props)]] (⟨79, 4, [[.slice 2 false (encRows o), .own 1 v.length, .int .i64 k, .int .i64 x]], true, false⟩ :: ⟨48, 2, encRows v, true, true⟩ :: Z) = some (OKR ⟨o, v, k, x⟩ ∧ GoodPr y.props, .tup [], KSt.A (Rs.edge ⟨o, v, k, x⟩ y) 1 :: KSt.V (Rs.edge ⟨o, v, k, x⟩ y) :: Z) := by
  have h := gM2_eq KSt (f := fEdgeR) (p := 0) (l := 1) (rest := [Enc.enc y]) (s := ⟨o, v, k, x⟩) (H := KSt.A ⟨o, v, k, x⟩ 1 :: KSt.V ⟨o, v, k, x⟩ :: Z) rfl rfl rfl
  have e1 : (Enc.dec (Enc.enc y) : EdgePat) = y := Enc.dec_enc y
  have e3 : reown 1 (Enc.enc y) = Enc.enc y := rfl
  have e4 : (Enc.enc y).deepArg = true := rfl
  simp only [e1, e3, List.mem_singleton, forall_eq, e4, true_or, and_true, true_and] at h
  simp at h
  exact h
section
variable {m : Int}
noncomputable def CNoR (m : Int) : Ctx := mkC Tryz.prog (G m) [(45, .gen gFailR), (46, .gen gIntroR), (44, .gen gCheckR), (21, .pure sKind)]
@[simp] theorem CNoR_P (m : Int) : (CNoR m).P = Tryz.prog := rfl
@[simp] theorem CNoR_G (m : Int) : (CNoR m).G = (G m) := rfl
@[simp] theorem CNoR_1 (m : Int) : (CNoR m).S 45 = .gen gFailR := rfl
@[simp] theorem CNoR_2 (m : Int) : (CNoR m).S 46 = .gen gIntroR := rfl
@[simp] theorem CNoR_3 (m : Int) : (CNoR m).S 44 = .gen gCheckR := rfl
@[simp] theorem CNoR_4 (m : Int) : (CNoR m).S 21 = .pure sKind := rfl
theorem mixCNoR (m : Int) : (CNoR m).P.follows .mixedOrders = true := mixed
theorem sigCNoR (m : Int) : SigOK (CNoR m) := sigOK_cons (entryGen (failR) Tryz.func45 rfl (by decide)) (sigOK_cons (entryGen (introR) Tryz.func46 rfl (by decide)) (sigOK_cons (entryGen (checkRR) Tryz.func44 rfl (by decide)) (sigOK_cons (entryPure (kindR) Tryz.func21 rfl (by decide)) (sigOK_nil _ _))))
set_option maxHeartbeats 16000000 in
theorem nodeR : GenOK Tryz.prog (G m) 66 gNodeR := by
  refine gen_frame2 KSt (gen_of_avcH (C := CNoR m) (sigCNoR m) (mixCNoR m) [1, 12] Tryz.func66 rfl rfl rfl (by kernel_rfl) (fun avs H ob r H' h hob => ?_))
  obtain ⟨rest, s, p, st, rfl, rfl, hf, hp, rfl, rfl, hd⟩ := gM2c_inv KSt h hob
  unfold fNodeR at hf
  split at hf
  case h_2 => cases hf
  rename_i a
  simp only [Option.some.injEq, Prod.mk.injEq] at hf
  obtain ⟨rfl, rfl⟩ := hf
  obtain ⟨hs, ha, hg, hlb⟩ := hp
  generalize (Enc.dec a : NodePat) = n at *
  subst ha
  refine ⟨(by show 2 ≤ _; decide), ?_⟩
  show avcH _ _ _ _ _ ⟨argsρ 0 [.ptr 0 1 4 0 0, Enc.enc n], [SS s.old 1 s.vars.length s.kind s.e, VS s.vars]⟩ (wEnd _ _ _ fun ex st' => _ ∧ ∃ ob', _ ∧ _ ∧ st'.H = [KSt.A (s.node n) 1, KSt.V (s.node n)])
  clear h hd
  have hbl := len24 hs.2
  obtain ⟨b, hb⟩ : ∃ b, s.nodeK n = b := ⟨_, rfl⟩
  have hbo : OKR b := by rw [← hb]; exact hs.nodeK n
  have hr : s.node n = b.props n.props := by unfold Rs.node; rw [hb]
  rw [hr, KSt_A, KSt_V]
  have hpl : n.props.length ≤ 9223372036854775807 := hg.1
  have hlb' : n.labels.length + n.props.length ≤ 9223372036854775807 := hlb
  have i2 : I64 ((n.labels.length : Int) + n.props.length) := by unfold I64; omega
  clear hr
  unfold Rs.nodeK at hb
  dsimp only at hb
  simp [argsρ, SS, VS]
  refine AW_regionF (sigCNoR m) (mixCNoR m) [.pure, .pure, .pure, .read, .pure, .read, .read, .pure] [[],[0],[0,1],[1,0,2],[],[4],[4,5,2,0,1,3],[3,1,0,2,5,4,6]] (by kernel_rfl) (by kernel_rfl) (by kernel_rfl) (by kernel_rfl) ?_
  rcases em2 (n.var = ⟨#[]⟩) with h0 | h0
  · rw [if_neg (by simp [h0]), if_neg (by simp [h0])] at hb
    have hb' := hb.symm
    subst hb'
    simp [SS, VS, NBk, sKind, hbl, h0]
    refine loop_ruleH (C := CNoR m) (sigCNoR m) (mixCNoR m) [1, 12] (fun i : Nat => ⟨[(0, .ptr 0 1 4 0 0), (3, .ptr 2 1 3 0 0), (5, .int .i64 i)], [SS (b.props (n.props.take i)).old 1 (b.props (n.props.take i)).vars.length (b.props (n.props.take i)).kind (b.props (n.props.take i)).e, VS (b.props (n.props.take i)).vars, NBk n]⟩) (fun i => i ≤ n.props.length) (fun i => n.props.length - i) (by kernel_rfl) ⟨0, Nat.zero_le _, weak_eq (by simp) (by simp [SS, VS, NBk, Rs.props])⟩ (fun i hi => ?_)
    have hbi := hbo.props (n.props.take i)
    by_cases hlt : i < n.props.length
    · have i1 : I64 ((i : Int) + 1) := by unfold I64; omega
      have hgi := hg.2 _ (ix_mem hlt)
      have ht := Rs.props_take (b := b) hlt
      generalize b.props (n.props.take i) = B at *
      simp [SS, VS, NBk, hlt, rowAt_enc hlt]
      refine AW_regionF (sigCNoR m) (mixCNoR m) [.pure, .pure, .read, .pure, .pure, .pure, .read, .pure, .pure, .pure, .read, .eff] [[],[],[1],[],[3,1,2],[2,1,3,4],[4,3,1,2,5],[],[7],[7,8],[8,7,9],[9,7,8,10,5,2,1,3,4,6,0]] (by kernel_rfl) (by kernel_rfl) (by kernel_rfl) (by kernel_rfl) ?_
      simp [SS, VS, NBk, hlt, rowAt_enc hlt, gCheckR_o, hbi.1, hgi, i1]
      exact ⟨i + 1, by omega, by omega, weak_eq (by simp) (by simp [SS, VS, NBk, ht, KSt_A, KSt_V])⟩
    · obtain rfl : i = n.props.length := by omega
      rw [List.take_length]
      simp [SS, VS, NBk, hlt]
      exact ⟨⟨[], _⟩, weak_keep 2 (by simp) (Nat.le_refl _) (by simp) (by simp [AV.clean, AV.clean1]) rfl, .inl rfl, ⟨True, trivial⟩, rfl⟩
  by_cases h1 : kindF s.vars n.var = 0
  · rw [if_pos ⟨of_eq_false h0, h1⟩] at hb
    simp [SS, VS, NBk, sKind, hbl, h0, h1, gIntroR_l, hs, hb, KSt_A, KSt_V]
    refine loop_ruleH (C := CNoR m) (sigCNoR m) (mixCNoR m) [1, 12] (fun i : Nat => ⟨[(0, .ptr 0 1 4 0 0), (3, .ptr 2 1 3 0 0), (5, .int .i64 i)], [SS (b.props (n.props.take i)).old 1 (b.props (n.props.take i)).vars.length (b.props (n.props.take i)).kind (b.props (n.props.take i)).e, VS (b.props (n.props.take i)).vars, NBk n]⟩) (fun i => i ≤ n.props.length) (fun i => n.props.length - i) (by kernel_rfl) ⟨0, Nat.zero_le _, weak_eq (by simp) (by simp [SS, VS, NBk, Rs.props])⟩ (fun i hi => ?_)
    have hbi := hbo.props (n.props.take i)
    by_cases hlt : i < n.props.length
    · have i1 : I64 ((i : Int) + 1) := by unfold I64; omega
      have hgi := hg.2 _ (ix_mem hlt)
      have ht := Rs.props_take (b := b) hlt
      generalize b.props (n.props.take i) = B at *
      simp [SS, VS, NBk, hlt, rowAt_enc hlt]
      refine AW_regionF (sigCNoR m) (mixCNoR m) [.pure, .pure, .read, .pure, .pure, .pure, .read, .pure, .pure, .pure, .read, .eff] [[],[],[1],[],[3,1,2],[2,1,3,4],[4,3,1,2,5],[],[7],[7,8],[8,7,9],[9,7,8,10,5,2,1,3,4,6,0]] (by kernel_rfl) (by kernel_rfl) (by kernel_rfl) (by kernel_rfl) ?_
      simp [SS, VS, NBk, hlt, rowAt_enc hlt, gCheckR_o, hbi.1, hgi, i1]
      exact ⟨i + 1, by omega, by omega, weak_eq (by simp) (by simp [SS, VS, NBk, ht, KSt_A, KSt_V])⟩
    · obtain rfl : i = n.props.length := by omega
      rw [List.take_length]
      simp [SS, VS, NBk, hlt]
      exact ⟨⟨[], _⟩, weak_keep 2 (by simp) (Nat.le_refl _) (by simp) (by simp [AV.clean, AV.clean1]) rfl, .inl rfl, ⟨True, trivial⟩, rfl⟩
  rw [if_neg (fun q => h1 q.2), if_pos (of_eq_false h0)] at hb
  by_cases h2 : kindF s.vars n.var = 1
  · have e8 : (if kindF s.vars n.var ≠ 1 then s.fail 8 else s) = s := if_neg (by simp [h2])
    rw [e8] at hb
    rcases em2 (s.kind = 1) with h3 | h3
    · rw [if_neg (by simp [h3])] at hb
      have hb' := hb.symm
      subst hb'
      simp [SS, VS, NBk, sKind, hbl, h0, h1, h2, h3]
      refine loop_ruleH (C := CNoR m) (sigCNoR m) (mixCNoR m) [1, 12] (fun i : Nat => ⟨[(0, .ptr 0 1 4 0 0), (3, .ptr 2 1 3 0 0), (5, .int .i64 i)], [SS (b.props (n.props.take i)).old 1 (b.props (n.props.take i)).vars.length (b.props (n.props.take i)).kind (b.props (n.props.take i)).e, VS (b.props (n.props.take i)).vars, NBk n]⟩) (fun i => i ≤ n.props.length) (fun i => n.props.length - i) (by kernel_rfl) ⟨0, Nat.zero_le _, weak_eq (by simp) (by simp [SS, VS, NBk, Rs.props])⟩ (fun i hi => ?_)
      have hbi := hbo.props (n.props.take i)
      by_cases hlt : i < n.props.length
      · have i1 : I64 ((i : Int) + 1) := by unfold I64; omega
        have hgi := hg.2 _ (ix_mem hlt)
        have ht := Rs.props_take (b := b) hlt
        generalize b.props (n.props.take i) = B at *
        simp [SS, VS, NBk, hlt, rowAt_enc hlt]
        refine AW_regionF (sigCNoR m) (mixCNoR m) [.pure, .pure, .read, .pure, .pure, .pure, .read, .pure, .pure, .pure, .read, .eff] [[],[],[1],[],[3,1,2],[2,1,3,4],[4,3,1,2,5],[],[7],[7,8],[8,7,9],[9,7,8,10,5,2,1,3,4,6,0]] (by kernel_rfl) (by kernel_rfl) (by kernel_rfl) (by kernel_rfl) ?_
        simp [SS, VS, NBk, hlt, rowAt_enc hlt, gCheckR_o, hbi.1, hgi, i1]
        exact ⟨i + 1, by omega, by omega, weak_eq (by simp) (by simp [SS, VS, NBk, ht, KSt_A, KSt_V])⟩
      · obtain rfl : i = n.props.length := by omega
        rw [List.take_length]
        simp [SS, VS, NBk, hlt]
        exact ⟨⟨[], _⟩, weak_keep 2 (by simp) (Nat.le_refl _) (by simp) (by simp [AV.clean, AV.clean1]) rfl, .inl rfl, ⟨True, trivial⟩, rfl⟩
    · by_cases h4 : 0 < n.labels.length + n.props.length
      · have h5 : (0 : Int) < n.labels.length + n.props.length := by omega
        rw [if_pos ⟨of_eq_false h3, h4⟩] at hb
        simp [SS, VS, NBk, sKind, hbl, h0, h1, h2, h3, h5, i2, gFailR_l, hb, KSt_A, KSt_V]
        refine loop_ruleH (C := CNoR m) (sigCNoR m) (mixCNoR m) [1, 12] (fun i : Nat => ⟨[(0, .ptr 0 1 4 0 0), (3, .ptr 2 1 3 0 0), (5, .int .i64 i)], [SS (b.props (n.props.take i)).old 1 (b.props (n.props.take i)).vars.length (b.props (n.props.take i)).kind (b.props (n.props.take i)).e, VS (b.props (n.props.take i)).vars, NBk n]⟩) (fun i => i ≤ n.props.length) (fun i => n.props.length - i) (by kernel_rfl) ⟨0, Nat.zero_le _, weak_eq (by simp) (by simp [SS, VS, NBk, Rs.props])⟩ (fun i hi => ?_)
        have hbi := hbo.props (n.props.take i)
        by_cases hlt : i < n.props.length
        · have i1 : I64 ((i : Int) + 1) := by unfold I64; omega
          have hgi := hg.2 _ (ix_mem hlt)
          have ht := Rs.props_take (b := b) hlt
          generalize b.props (n.props.take i) = B at *
          simp [SS, VS, NBk, hlt, rowAt_enc hlt]
          refine AW_regionF (sigCNoR m) (mixCNoR m) [.pure, .pure, .read, .pure, .pure, .pure, .read, .pure, .pure, .pure, .read, .eff] [[],[],[1],[],[3,1,2],[2,1,3,4],[4,3,1,2,5],[],[7],[7,8],[8,7,9],[9,7,8,10,5,2,1,3,4,6,0]] (by kernel_rfl) (by kernel_rfl) (by kernel_rfl) (by kernel_rfl) ?_
          simp [SS, VS, NBk, hlt, rowAt_enc hlt, gCheckR_o, hbi.1, hgi, i1]
          exact ⟨i + 1, by omega, by omega, weak_eq (by simp) (by simp [SS, VS, NBk, ht, KSt_A, KSt_V])⟩
        · obtain rfl : i = n.props.length := by omega
          rw [List.take_length]
          simp [SS, VS, NBk, hlt]
          exact ⟨⟨[], _⟩, weak_keep 2 (by simp) (Nat.le_refl _) (by simp) (by simp [AV.clean, AV.clean1]) rfl, .inl rfl, ⟨True, trivial⟩, rfl⟩
      · have h5 : ¬ (0 : Int) < n.labels.length + n.props.length := by omega
        rw [if_neg (fun q => h4 q.2)] at hb
        have hb' := hb.symm
        subst hb'
        simp [SS, VS, NBk, sKind, hbl, h0, h1, h2, h3, h5, i2]
        refine loop_ruleH (C := CNoR m) (sigCNoR m) (mixCNoR m) [1, 12] (fun i : Nat => ⟨[(0, .ptr 0 1 4 0 0), (3, .ptr 2 1 3 0 0), (5, .int .i64 i)], [SS (b.props (n.props.take i)).old 1 (b.props (n.props.take i)).vars.length (b.props (n.props.take i)).kind (b.props (n.props.take i)).e, VS (b.props (n.props.take i)).vars, NBk n]⟩) (fun i => i ≤ n.props.length) (fun i => n.props.length - i) (by kernel_rfl) ⟨0, Nat.zero_le _, weak_eq (by simp) (by simp [SS, VS, NBk, Rs.props])⟩ (fun i hi => ?_)
        have hbi := hbo.props (n.props.take i)
        by_cases hlt : i < n.props.length
        · have i1 : I64 ((i : Int) + 1) := by unfold I64; omega
          have hgi := hg.2 _ (ix_mem hlt)
          have ht := Rs.props_take (b := b) hlt
          generalize b.props (n.props.take i) = B at *
          simp [SS, VS, NBk, hlt, rowAt_enc hlt]
          refine AW_regionF (sigCNoR m) (mixCNoR m) [.pure, .pure, .read, .pure, .pure, .pure, .read, .pure, .pure, .pure, .read, .eff] [[],[],[1],[],[3,1,2],[2,1,3,4],[4,3,1,2,5],[],[7],[7,8],[8,7,9],[9,7,8,10,5,2,1,3,4,6,0]] (by kernel_rfl) (by kernel_rfl) (by kernel_rfl) (by kernel_rfl) ?_
          simp [SS, VS, NBk, hlt, rowAt_enc hlt, gCheckR_o, hbi.1, hgi, i1]
          exact ⟨i + 1, by omega, by omega, weak_eq (by simp) (by simp [SS, VS, NBk, ht, KSt_A, KSt_V])⟩
        · obtain rfl : i = n.props.length := by omega
          rw [List.take_length]
          simp [SS, VS, NBk, hlt]
          exact ⟨⟨[], _⟩, weak_keep 2 (by simp) (Nat.le_refl _) (by simp) (by simp [AV.clean, AV.clean1]) rfl, .inl rfl, ⟨True, trivial⟩, rfl⟩
  · have e8 : (if kindF s.vars n.var ≠ 1 then s.fail 8 else s) = s.fail 8 := if_pos h2
    rw [e8] at hb
    obtain ⟨b8, hb8⟩ : ∃ b8, s.fail 8 = b8 := ⟨_, rfl⟩
    have hbk : b8.kind = s.kind := by rw [← hb8]; exact Rs.fail_kind _ _
    rw [hb8] at hb
    rcases em2 (s.kind = 1) with h3 | h3
    · have h3b : (b8.kind = 1) = True := by rw [hbk]; exact h3
      rw [if_neg (by simp [h3b])] at hb
      have hb' := hb.symm
      subst hb'
      simp [SS, VS, NBk, sKind, hbl, h0, h1, h2, h3b, gFailR_l, hb8, KSt_A, KSt_V]
      refine loop_ruleH (C := CNoR m) (sigCNoR m) (mixCNoR m) [1, 12] (fun i : Nat => ⟨[(0, .ptr 0 1 4 0 0), (3, .ptr 2 1 3 0 0), (5, .int .i64 i)], [SS (b.props (n.props.take i)).old 1 (b.props (n.props.take i)).vars.length (b.props (n.props.take i)).kind (b.props (n.props.take i)).e, VS (b.props (n.props.take i)).vars, NBk n]⟩) (fun i => i ≤ n.props.length) (fun i => n.props.length - i) (by kernel_rfl) ⟨0, Nat.zero_le _, weak_eq (by simp) (by simp [SS, VS, NBk, Rs.props])⟩ (fun i hi => ?_)
      have hbi := hbo.props (n.props.take i)
      by_cases hlt : i < n.props.length
      · have i1 : I64 ((i : Int) + 1) := by unfold I64; omega
        have hgi := hg.2 _ (ix_mem hlt)
        have ht := Rs.props_take (b := b) hlt
        generalize b.props (n.props.take i) = B at *
        simp [SS, VS, NBk, hlt, rowAt_enc hlt]
        refine AW_regionF (sigCNoR m) (mixCNoR m) [.pure, .pure, .read, .pure, .pure, .pure, .read, .pure, .pure, .pure, .read, .eff] [[],[],[1],[],[3,1,2],[2,1,3,4],[4,3,1,2,5],[],[7],[7,8],[8,7,9],[9,7,8,10,5,2,1,3,4,6,0]] (by kernel_rfl) (by kernel_rfl) (by kernel_rfl) (by kernel_rfl) ?_
        simp [SS, VS, NBk, hlt, rowAt_enc hlt, gCheckR_o, hbi.1, hgi, i1]
        exact ⟨i + 1, by omega, by omega, weak_eq (by simp) (by simp [SS, VS, NBk, ht, KSt_A, KSt_V])⟩
      · obtain rfl : i = n.props.length := by omega
        rw [List.take_length]
        simp [SS, VS, NBk, hlt]
        exact ⟨⟨[], _⟩, weak_keep 2 (by simp) (Nat.le_refl _) (by simp) (by simp [AV.clean, AV.clean1]) rfl, .inl rfl, ⟨True, trivial⟩, rfl⟩
    · have h3b : (b8.kind = 1) = False := by rw [hbk]; exact h3
      by_cases h4 : 0 < n.labels.length + n.props.length
      · have h5 : (0 : Int) < n.labels.length + n.props.length := by omega
        rw [if_pos ⟨of_eq_false h3b, h4⟩] at hb
        simp [SS, VS, NBk, sKind, hbl, h0, h1, h2, h3b, h5, i2, gFailR_l, hb8, hb, KSt_A, KSt_V]
        refine loop_ruleH (C := CNoR m) (sigCNoR m) (mixCNoR m) [1, 12] (fun i : Nat => ⟨[(0, .ptr 0 1 4 0 0), (3, .ptr 2 1 3 0 0), (5, .int .i64 i)], [SS (b.props (n.props.take i)).old 1 (b.props (n.props.take i)).vars.length (b.props (n.props.take i)).kind (b.props (n.props.take i)).e, VS (b.props (n.props.take i)).vars, NBk n]⟩) (fun i => i ≤ n.props.length) (fun i => n.props.length - i) (by kernel_rfl) ⟨0, Nat.zero_le _, weak_eq (by simp) (by simp [SS, VS, NBk, Rs.props])⟩ (fun i hi => ?_)
        have hbi := hbo.props (n.props.take i)
        by_cases hlt : i < n.props.length
        · have i1 : I64 ((i : Int) + 1) := by unfold I64; omega
          have hgi := hg.2 _ (ix_mem hlt)
          have ht := Rs.props_take (b := b) hlt
          generalize b.props (n.props.take i) = B at *
          simp [SS, VS, NBk, hlt, rowAt_enc hlt]
          refine AW_regionF (sigCNoR m) (mixCNoR m) [.pure, .pure, .read, .pure, .pure, .pure, .read, .pure, .pure, .pure, .read, .eff] [[],[],[1],[],[3,1,2],[2,1,3,4],[4,3,1,2,5],[],[7],[7,8],[8,7,9],[9,7,8,10,5,2,1,3,4,6,0]] (by kernel_rfl) (by kernel_rfl) (by kernel_rfl) (by kernel_rfl) ?_
          simp [SS, VS, NBk, hlt, rowAt_enc hlt, gCheckR_o, hbi.1, hgi, i1]
          exact ⟨i + 1, by omega, by omega, weak_eq (by simp) (by simp [SS, VS, NBk, ht, KSt_A, KSt_V])⟩
        · obtain rfl : i = n.props.length := by omega
          rw [List.take_length]
          simp [SS, VS, NBk, hlt]
          exact ⟨⟨[], _⟩, weak_keep 2 (by simp) (Nat.le_refl _) (by simp) (by simp [AV.clean, AV.clean1]) rfl, .inl rfl, ⟨True, trivial⟩, rfl⟩
      · have h5 : ¬ (0 : Int) < n.labels.length + n.props.length := by omega
        rw [if_neg (fun q => h4 q.2)] at hb
        have hb' := hb.symm
        subst hb'
        simp [SS, VS, NBk, sKind, hbl, h0, h1, h2, h3b, h5, i2, gFailR_l, hb8, KSt_A, KSt_V]
        refine loop_ruleH (C := CNoR m) (sigCNoR m) (mixCNoR m) [1, 12] (fun i : Nat => ⟨[(0, .ptr 0 1 4 0 0), (3, .ptr 2 1 3 0 0), (5, .int .i64 i)], [SS (b.props (n.props.take i)).old 1 (b.props (n.props.take i)).vars.length (b.props (n.props.take i)).kind (b.props (n.props.take i)).e, VS (b.props (n.props.take i)).vars, NBk n]⟩) (fun i => i ≤ n.props.length) (fun i => n.props.length - i) (by kernel_rfl) ⟨0, Nat.zero_le _, weak_eq (by simp) (by simp [SS, VS, NBk, Rs.props])⟩ (fun i hi => ?_)
        have hbi := hbo.props (n.props.take i)
        by_cases hlt : i < n.props.length
        · have i1 : I64 ((i : Int) + 1) := by unfold I64; omega
          have hgi := hg.2 _ (ix_mem hlt)
          have ht := Rs.props_take (b := b) hlt
          generalize b.props (n.props.take i) = B at *
          simp [SS, VS, NBk, hlt, rowAt_enc hlt]
          refine AW_regionF (sigCNoR m) (mixCNoR m) [.pure, .pure, .read, .pure, .pure, .pure, .read, .pure, .pure, .pure, .read, .eff] [[],[],[1],[],[3,1,2],[2,1,3,4],[4,3,1,2,5],[],[7],[7,8],[8,7,9],[9,7,8,10,5,2,1,3,4,6,0]] (by kernel_rfl) (by kernel_rfl) (by kernel_rfl) (by kernel_rfl) ?_
          simp [SS, VS, NBk, hlt, rowAt_enc hlt, gCheckR_o, hbi.1, hgi, i1]
          exact ⟨i + 1, by omega, by omega, weak_eq (by simp) (by simp [SS, VS, NBk, ht, KSt_A, KSt_V])⟩
        · obtain rfl : i = n.props.length := by omega
          rw [List.take_length]
          simp [SS, VS, NBk, hlt]
          exact ⟨⟨[], _⟩, weak_keep 2 (by simp) (Nat.le_refl _) (by simp) (by simp [AV.clean, AV.clean1]) rfl, .inl rfl, ⟨True, trivial⟩, rfl⟩
end
end Go.Proofs.YtgjljfbohpnfcaaGreat
