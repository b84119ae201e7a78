import Derived.Test.YtfoipbjhaiimlaaDoorAmI
/-
  Loops with several ways out that lead on together. Own work; no program in sight.
-/
namespace Go.Proofs.YtfoipbjhaiimlaaDoor
open Go.RowKit

theorem weak_eq {C : Ctx} {N h0 : Nat} {ρ ρ' : List (Nat × AV)} {H H' : List Blk} (h : ∀ p ∈ ρ', getA ρ p.1 = p.2) (hH : H = H') : Weak C N h0 ⟨ρ, H⟩ ⟨ρ', H'⟩ := by
  subst hH
  exact weak_slots h
section
variable {C : Ctx} {N h0 : Nat}
/-- A loop that is left by one exit: what stands there, said once. -/
theorem loop_cut {α β : Type} (hS : SigOK C) (hM : C.P.follows .mixedOrders = true) {body : Code} {st : ASt} {Q : Exit → ASt → Prop} (id : Nat) (E : β → ASt) (post : β → Prop) (Sf : α → ASt) (pre : α → Prop) (m : α → Nat) (hok : codeOK C N body = true)
    (start : ∃ x, pre x ∧ Weak C N h0 st (Sf x)) (step : ∀ x, pre x → avc C N h0 body (Sf x) (round Sf pre (fun x' => m x' < m x) N h0 C (fun ex s => ex = .exit id ∧ ∃ y, post y ∧ Weak C N h0 s (E y))))
    (rest : ∀ y, post y → Q (.exit id) (E y)) : AW C N h0 (.loop body) st Q :=
  AW_end (AW.mono (loop_rule hS hM Sf pre m hok start step) (fun ex s h => by
    obtain ⟨he, y, hy, hw⟩ := h
    subst he
    exact ⟨E y, hw, rest y hy⟩))
/-- The same with regions left by hand. -/
theorem loop_cutH {α β : Type} (hS : SigOK C) (hM : C.P.follows .mixedOrders = true) (hd : List Nat) {body : Code} {st : ASt} {Q : Exit → ASt → Prop} (id : Nat) (E : β → ASt) (post : β → Prop) (Sf : α → ASt) (pre : α → Prop) (m : α → Nat) (hok : codeOKH C hd N body = true)
    (start : ∃ x, pre x ∧ Weak C N h0 st (Sf x)) (step : ∀ x, pre x → avcH C hd N h0 body (Sf x) (round Sf pre (fun x' => m x' < m x) N h0 C (fun ex s => ex = .exit id ∧ ∃ y, post y ∧ Weak C N h0 s (E y))))
    (rest : ∀ y, post y → Q (.exit id) (E y)) : AW C N h0 (.loop body) st Q :=
  AW_end (AW.mono (loop_ruleH hS hM hd Sf pre m hok start step) (fun ex s h => by
    obtain ⟨he, y, hy, hw⟩ := h
    subst he
    exact ⟨E y, hw, rest y hy⟩))
end
section
variable {C : Ctx} (hS : SigOK C) (hM : C.P.follows .mixedOrders = true) {f : FuncId} {fn : Func} {body : Code} {rs : List ResultVar} {n : Nat} (hf : C.P.funcs[f]? = some fn) (hb : fn.body = some body) (hrs : fn.results.toList = rs) (hn : fn.ntmps = n) (hd : List Nat)
include hS hM hf hb hrs hn
theorem pureH4 {α β γ δ : Type} [Enc α] [Enc β] [Enc γ] [Enc δ] (hok : codeOKH C hd n body = true) (hnn : 4 ≤ n) {pre : α → β → γ → δ → Prop} {res : α → β → γ → δ → AV} (h : ∀ a b c d, pre a b c d → avcH C hd n 0 body ⟨[(0, Enc.enc a), (1, Enc.enc b), (2, Enc.enc c), (3, Enc.enc d)], []⟩ (postP C rs (res a b c d))) : PureOK C.P C.G f (spec4 pre res) :=
  pure_of_AW hf hb hrs hn fun avs ob r' hp hob => by
    unfold spec4 at hp
    split at hp
    · injection hp with hp; injection hp with e1 e2; subst e1 e2
      have := h _ _ _ _ hob.2.2.2.2
      rw [← hob.1, ← hob.2.1, ← hob.2.2.1, ← hob.2.2.2.1] at this
      exact ⟨hnn, avcH_sound hS hM body hok this⟩
    · cases hp
end
end Go.Proofs.YtfoipbjhaiimlaaDoor

/-
  Two more operations: a slice written out that holds slices of the call's own; a copy into a slice of the call's own. Own work; no program in sight.
-/
namespace Go.Proofs.YtfoipbjhaiimlaaDoor
open Go.RowKit

/-- A slice of one element, which is kept open. -/
def abuildOwn (C : Ctx) (ρ : List (Nat × AV)) (H : List Blk) (t : TypeId) (parts : List (Nat × Operand)) : Option (Prop × AV × List Blk) :=
  match elT C.P t, parts with
  | some e, [(0, x)] =>
    match aggT C.P e, zT C.P e with
    | some false, some _ => if (aev C ρ e x).isCell = true ∧ szT C.P e = 1 then some (True, .own H.length 1, H ++ [⟨e, 1, [[aev C ρ e x]], true, (aev C ρ e x).isDeep⟩]) else none
    | _, _ => none
  | _, _ => none
def acopyO (C : Ctx) (H : List Blk) (t : TypeId) (d s : AV) : Option (Prop × AV × List Blk) :=
  match elT C.P t, d, s with
  | some e, .own l n, .slice sz _ ys =>
    match H[l]? with
    | some b => if b.mu = true ∧ b.sz = szT C.P e ∧ sz = szT C.P e then some (b.rows.length = n ∧ 0 < ys.length ∧ ys.length ≤ n, .int .i64 ys.length, H.set l { b with rows := ys ++ b.rows.drop ys.length, deep := b.deep && true }) else none
    | none => none
  | _, _, _ => none
/-- One step, with these two. -/
def astepO (C : Ctx) (st : ASt) (o : Oper) : Option (Prop × AV × List Blk) :=
  match o.op with
  | .buildSlice t 1 parts => abuildOwn C st.ρ st.H t parts.toList
  | .call c => match c.callee, c.args.toList, c.argTypes.toList with
    | .builtin .copy, [d, s], [t, t'] => if t = t' then acopyO C st.H t (aev C st.ρ t d) (aev C st.ρ t' s) else none
    | _, _, _ => astep C st o
  | _ => astep C st o
def aopsO (C : Ctx) (ops : Array Oper) : List Oper → ASt → (ASt → Prop) → Prop
  | [], st, K => K st
  | o :: r, st, K =>
    match wantG ops st.ρ o with
    | none => False
    | some g =>
      (g = true → match astepO C st o with
        | some (ob, v, H') => ob ∧ aopsO C ops r ⟨putA st.ρ o.dst v, H'⟩ K
        | none => False) ∧
      (g = false → aopsO C ops r ⟨putA st.ρ o.dst (.tup []), st.H⟩ K)

section
variable {C : Ctx} {N h0 : Nat} {X : Nat → Prop} {β : List BI} {H : List Blk} {w w0 : World} {β0 : List BI} {H0 : List Blk}
theorem abuildOwn_sound (R : HRel w X β H) {a : Act} {ρ : List (Nat × AV)} (T : TRel w (Mu X β H) β H a ρ) (G : GRel C w (Mu X β H)) {t : TypeId} {parts : Array (Nat × Operand)} {ob : Prop} {r : AV} {H' : List Blk} (h : abuildOwn C ρ H t parts.toList = some (ob, r, H')) :
    ∃ u w' β', (Instr.buildSlice t 1 (parts.map fun (i, x) => (i, a.eval x))).run C.P w = .ok u w' ∧ HRel w' X β' H' ∧ StepR w β H w' β' H' ∧ Rep w' (Mu X β' H') β' H' u r := by
  unfold abuildOwn at h
  split at h
  · rename_i e x he hp
    split at h
    · rename_i z ha hz
      split at h
      · rename_i hc
        injection h with h; injection h with e1 e2; injection e2 with e2 e3; subst e1 e2 e3
        obtain ⟨hcell, hsz⟩ := hc
        obtain rfl : parts = #[(0, x)] := by rw [← Array.toList_inj, hp]
        have hx := aev_sound (C := C) T G e x
        have h1c := rep_cell hx hcell
        generalize aev C ρ e x = av at *
        obtain ⟨v, hv⟩ : ∃ v, a.eval x = v := ⟨_, rfl⟩
        rw [hv] at hx h1c
        obtain ⟨i, zv, z1, z2, z3, z4, z5, z6, z7⟩ := zT_sound hz
        have hzr : (zeroValue e).run C.P w = .ok zv w := by simp [zeroValue, typeInfo, z1, z2]
        have hsize := run_sizeOf (P := C.P) (t := e) (by omega) w
        have hcells : v.cells = #[v] := by cases v <;> first | rfl | (simp [Value.oneCell'] at h1c)
        have hk := Keeps.alloc (fun _ => False) w (.cells #[v] e)
        have S := push_step R hk (.lies w.heap.size 1) ⟨e, 1, [[av]], true, av.isDeep⟩ (fun bk c e => by injection e with e _; omega)
        refine ⟨.slice (some ⟨w.heap.size, 0, none⟩) 1 1, w.alloc (.cells #[v] e), β ++ [.lies w.heap.size 1], ?_, push_hrel R hk _ _ (fun bk c e => by injection e with e _; omega) (fun bk c e => by injection e with e _; subst e; simp) ?_, S, ?_⟩
        · simp [Instr.buildSlice, run_underlying (elT_eq he), hsize, hsz, hzr, Instr.fill, hv, hcells, newRow]
          have key : ∀ A : Array Value, A.size = 1 → A.setIfInBounds 0 v = #[v] := fun A hA => by
            refine Array.ext (by simp [hA]) fun k h1 h2 => ?_
            simp at h2
            subst h2
            simp
          rw [key _ (by simp)]
        · refine ⟨#[v], heap_alloc_new w _, rfl, Nat.le_refl _, by unfold maxLen; omega, Nat.zero_lt_one, fun r hr => ?_, fun i j r av' hi hj => ?_⟩
          · simp at hr; subst hr; rfl
          · match i with
            | 0 =>
              simp at hi
              subst hi
              match j with
              | 0 =>
                simp at hj
                subst hj
                exact ⟨v, rfl, h1c, hx.keep S, fun hd => rep_deep hd (hx.keep S)⟩
              | j + 1 => simp at hj
            | i + 1 => simp at hi
        · refine .own H.length 1 _ 1 _ (getElem?_snoc_new H _) (Nat.le_refl _) (.inr ⟨_, rfl⟩) (Nat.le_refl _) fun _ => ?_
          rw [← R.len, getElem?_snoc_new]
          exact ⟨rfl, rfl⟩
      · cases h
    · cases h
  · cases h
theorem acopyO_sound (R : HRel w X β H) {t : TypeId} {d s : AV} {ob : Prop} {r : AV} {H' : List Blk} (h : acopyO C H t d s = some (ob, r, H')) (hob : ob) {vd vs : Value} (hd : Rep w (Mu X β H) β H vd d) (hs : Rep w (Mu X β H) β H vs s) (ty : TypeId) :
    ∃ u w' β', (Builtin.copy_ #[t, t] ty #[vd, vs]).run C.P w = .ok u w' ∧ HRel w' X β' H' ∧ StepR w β H w' β' H' ∧ Rep w' (Mu X β' H') β' H' u r := by
  unfold acopyO at h
  split at h
  · rename_i e l n sz fl ys he
    split at h
    · rename_i b hb
      split at h
      · rename_i hc
        obtain ⟨hmu, hbs, hsz⟩ := hc
        injection h with h; injection h with e1 e2; injection e2 with e2 e3; subst e1 e2 e3
        obtain ⟨o1, o2, o3⟩ := hob
        obtain ⟨a, cap, b', rfl, hb', hn, h0', hq⟩ := rep_own hd
        rw [hb] at hb'; injection hb' with hb'; subst hb'
        have hq := hq o1
        obtain ⟨xa, c, xval, rfl, hxr, hxl, hxv⟩ := src_rows (C := C) (e := e) (x := .slice sz fl ys) (ob := True) (ys := ys) (dp := true) R (by simp [hsz]) trivial hs
        cases hβ : β[l]? with
        | none => rw [hβ] at hq; exact hq.elim
        | some bi =>
          rw [hβ] at hq
          have hB := R.blk l bi b hβ hb
          cases bi with
          | nil => have : b.rows = [] := hB.1; rw [this] at o1; simp at o1; omega
          | lies bk c0 =>
            obtain ⟨rfl, rfl⟩ := hq
            have hz0 : 0 < b.sz := by obtain ⟨cur, h1, h2, h3, h4, h5, h6, h7⟩ := hB; exact h5
            obtain ⟨xb, xoff, rfl, hxc⟩ := hxr (by omega)
            obtain ⟨w', β', g1, g2, g3⟩ := write_rows (C := C) R hb hβ hmu 0 ys (flatV xval ys.length (szT C.P e)) true (by omega) (by rw [flatV_length, hbs]) (fun v hv => by
              obtain ⟨j, hj, rfl⟩ := List.getElem_of_mem hv
              exact (flatV_mem hxc (List.getElem?_eq_getElem hj)).2) (fun r hr => by rw [hxl r hr, hbs]) (fun i j r av hi hj => by
              have hi' := (List.getElem?_eq_some_iff.1 hi).1
              have hj' := (List.getElem?_eq_some_iff.1 hj).1
              have hj'' : j < szT C.P e := by rw [← hxl r (List.mem_of_getElem? hi)]; exact hj'
              rw [hbs, flatV_get _ _ _ _ _ hi' hj'']
              exact ⟨_, rfl, hxv i j r av hi hj⟩)
            rw [Nat.zero_mul] at g1
            simp only [List.take_zero, List.nil_append, Nat.zero_add] at g2 g3
            refine ⟨goInt ys.length, w', β', ?_, g2, g3, ?_⟩
            · have hsize := run_sizeOf (P := C.P) (t := e) (by omega) w
              have hld := run_loadCells_list (P := C.P) w ⟨xb, xoff, none⟩ (flatV xval ys.length (szT C.P e)) (fun j v hj => (flatV_mem hxc hj).1)
              rw [flatV_length] at hld
              have hmin : Nat.min ys.length n = ys.length := Nat.min_eq_left o3
              simp [Builtin.copy_, run_underlying (elT_eq he), Builtin.lenOf, Builtin.firstCells, hsize, hmin, hld, g1]
            · exact .deep (.int _ _)
      · cases h
    · cases h
  · cases h
theorem astepO_sound (hS : SigOK C) {a : Act} {st : ASt} (R : HRel w X β st.H) (T : TRel w (Mu X β st.H) β st.H a st.ρ) (G : GRel C w (Mu X β st.H)) {o : Oper} {ob : Prop} {r : AV} {H' : List Blk} (h : astepO C st o = some (ob, r, H')) (hob : ob)
    {K : Act → World → Prop} {Q : Exit → Act → World → Prop} (hK : After X w β st.H r H' o a K) : o.wp C.P a w K Q := by
  obtain ⟨dst, op, type, pos, after, guard⟩ := o
  unfold astepO at h
  simp only at h
  split at h
  · obtain ⟨u, w', β', h1, h2, h3, h4⟩ := abuildOwn_sound R T G h
    exact wp_value (u := u) (w' := w') (by simp only [execOp, Sem.run_bind, h1, Result.andThen_ok, Sem.run_pure]) (hK u w' β' h2 h3 h4)
  · rename_i c
    obtain ⟨callee, cargs, ctypes⟩ := c
    simp only at h
    split at h
    · rename_i d' s' t t' hargs htys
      split at h
      · rename_i htt
        subst htt
        obtain rfl : cargs = #[d', s'] := by rw [← Array.toList_inj, hargs]
        obtain rfl : ctypes = #[t, t] := by rw [← Array.toList_inj, htys]
        obtain ⟨u, w', β', h1, h2, h3, h4⟩ := acopyO_sound R h hob (aev_sound T G _ _) (aev_sound T G _ _) type
        refine wp_value (u := u) (w' := w') ?_ (hK u w' β' h2 h3 h4)
        simp only [execOp, resolve, invoke, builtin, Sem.run_bind, Sem.run_pure, Result.andThen_ok, List.map_toArray, List.map_cons, List.map_nil, h1]
      · cases h
    · exact astep_sound hS R T G h hob hK
  · exact astep_sound hS R T G h hob hK
theorem wpList_of_aopsO (hS : SigOK C) {ops : Array Oper} {Q : Exit → Act → World → Prop} : ∀ (l : List Oper), (∀ o ∈ l, ∀ d, o.dst = some d → d < N) → ∀ {st : ASt} {K : ASt → Prop} {a : Act} {w : World}, aopsO C ops l st K → Rel C N X w0 β0 H0 st a w →
    (∀ st' a' w', Rel C N X w0 β0 H0 st' a' w' → K st' → Q .normal a' w') → wpList C.P ops Q l a w
  | [], _, st, K, a, w, h, hr, hQ => hQ st a w hr h
  | o :: r, hd, st, K, a, w, h, hr, hQ => by
    obtain ⟨β, R, S0, T, G, hN, hdef⟩ := hr
    unfold aopsO at h
    split at h
    · exact h.elim
    · rename_i g hg
      have hw := wantG_sound T hg
      have ih := fun {st : ASt} {a : Act} {w : World} => wpList_of_aopsO hS r (fun o ho => hd o (List.mem_cons_of_mem _ ho)) (st := st) (K := K) (a := a) (w := w) (ops := ops) (Q := Q)
      unfold wpList
      rw [hw]
      cases g with
      | true =>
        have h := h.1 rfl
        split at h
        · rename_i ob v H' hst
          rw [if_pos rfl]
          refine .inl (astepO_sound hS R T G hst h.1 fun u w' β' R' S hr => ih h.2 (rel_put S0 T G hN hdef R' S hr o.dst (hd o (by simp))) hQ)
        · exact h.elim
      | false =>
        have h := h.2 rfl
        rw [if_neg (by simp)]
        exact ih h (rel_put S0 T G hN hdef R (StepR.refl _ _ _ R.len) rep_skip o.dst (hd o (by simp))) hQ
/-- A region in the order of its text, with these two operations. -/
theorem AW_regionO (hS : SigOK C) {id : Nat} {l : List Oper} {st : ASt} {Q : Exit → ASt → Prop} (hok : (l.all fun o => match o.dst with | some d => decide (d < N) | none => true) = true) (h : aopsO C l.toArray l st (Q .normal)) : AW C N h0 (.region id l.toArray false) st Q := fun X w0 β0 H0 a w hl hr => by
  refine wp_region_list (wpList_of_aopsO hS l.toArray.toList (fun o ho d hd => ?_) (by simpa using h) hr fun st' a' w' hr' hk => ⟨st', hk, hr'⟩)
  have := List.all_eq_true.1 hok o (by simpa using ho)
  rw [hd] at this
  simpa using this
@[simp] theorem aopsO_nil (ops : Array Oper) (st : ASt) (K : ASt → Prop) : aopsO C ops [] st K = K st := rfl
@[simp] theorem aopsO_cons (ops : Array Oper) (o : Oper) (r : List Oper) (st : ASt) (K : ASt → Prop) : aopsO C ops (o :: r) st K =
    thenG (wantG ops st.ρ o) fun g => both g (thenD (astepO C st o) fun ob v H' => ob ∧ aopsO C ops r ⟨putA st.ρ o.dst v, H'⟩ K) (aopsO C ops r ⟨putA st.ρ o.dst (.tup []), st.H⟩ K) := by
  rw [aopsO]
  cases wantG ops st.ρ o with
  | none => rfl
  | some g =>
    simp only [thenG_some, both]
    cases astepO C st o with
    | none => rfl
    | some x => rfl
end
@[congr] theorem aopsO_congr {C : Ctx} {ops : Array Oper} {l : List Oper} {st st' : ASt} {K : ASt → Prop} (h : mark st = st') : aopsO C ops l st K = aopsO C ops l st' K := by rw [mark_eq] at h; rw [h]
@[congr] theorem lazy_astepO {C : Ctx} {st st' : ASt} {o : Oper} (h : mark st = st') : astepO C st o = astepO C st' o := by rw [mark_eq] at h; rw [h]
section
variable {C : Ctx} (ρ : List (Nat × AV)) (H : List Blk) (d : Option Tmp) (ty : TypeId) (p : String) (af : Array Edge) (g : Option (Nat × Bool))
@[simp] theorem astepO_build (t : TypeId) (ps : Array (Nat × Operand)) : astepO C ⟨ρ, H⟩ ⟨d, .buildSlice t 1 ps, ty, p, af, g⟩ = abuildOwn C ρ H t ps.toList := rfl
@[simp] theorem astepO_copy (x y : Operand) (t t' : TypeId) : astepO C ⟨ρ, H⟩ ⟨d, .call ⟨.builtin .copy, #[x, y], #[t, t']⟩, ty, p, af, g⟩ = if t = t' then acopyO C H t (aev C ρ t x) (aev C ρ t' y) else none := rfl
@[simp] theorem astepO_append (x y : Operand) (t t' : TypeId) : astepO C ⟨ρ, H⟩ ⟨d, .call ⟨.builtin .append, #[x, y], #[t, t']⟩, ty, p, af, g⟩ = astep C ⟨ρ, H⟩ ⟨d, .call ⟨.builtin .append, #[x, y], #[t, t']⟩, ty, p, af, g⟩ := rfl
@[simp] theorem astepO_move (x : Operand) : astepO C ⟨ρ, H⟩ ⟨d, .move x, ty, p, af, g⟩ = astep C ⟨ρ, H⟩ ⟨d, .move x, ty, p, af, g⟩ := rfl
@[simp] theorem astepO_assign (x : Operand) : astepO C ⟨ρ, H⟩ ⟨d, .assign x, ty, p, af, g⟩ = astep C ⟨ρ, H⟩ ⟨d, .assign x, ty, p, af, g⟩ := rfl
@[simp] theorem astepO_nilCheck (x : Operand) : astepO C ⟨ρ, H⟩ ⟨d, .nilCheck x, ty, p, af, g⟩ = astep C ⟨ρ, H⟩ ⟨d, .nilCheck x, ty, p, af, g⟩ := rfl
@[simp] theorem astepO_fieldAddr (t : TypeId) (x : Operand) (k : Nat) : astepO C ⟨ρ, H⟩ ⟨d, .fieldAddr t x k, ty, p, af, g⟩ = astep C ⟨ρ, H⟩ ⟨d, .fieldAddr t x k, ty, p, af, g⟩ := rfl
@[simp] theorem astepO_load (t : TypeId) (x : Operand) : astepO C ⟨ρ, H⟩ ⟨d, .load t x, ty, p, af, g⟩ = astep C ⟨ρ, H⟩ ⟨d, .load t x, ty, p, af, g⟩ := rfl
@[simp] theorem astepO_store (t : TypeId) (x y : Operand) : astepO C ⟨ρ, H⟩ ⟨d, .store t x y, ty, p, af, g⟩ = astep C ⟨ρ, H⟩ ⟨d, .store t x y, ty, p, af, g⟩ := rfl
@[simp] theorem abuildOwn_at (t : TypeId) (x : Operand) : abuildOwn C ρ H t [(0, x)] = (match elT C.P t with
  | some e => (match aggT C.P e, zT C.P e with
    | some false, some _ => if (aev C ρ e x).isCell = true ∧ szT C.P e = 1 then some (True, .own H.length 1, H ++ [⟨e, 1, [[aev C ρ e x]], true, (aev C ρ e x).isDeep⟩]) else none
    | _, _ => none)
  | none => none) := by unfold abuildOwn; cases elT C.P t <;> rfl
end
end Go.Proofs.YtfoipbjhaiimlaaDoor

/-
  A function that changes the caller's blocks and whose result is read before its own blocks are dropped. Own work; no program in sight.
-/
namespace Go.Proofs.YtfoipbjhaiimlaaDoor
open Go.RowKit

/-- The blocks behind some are dropped; neither the result nor what stays speaks of them. -/
def dropT (hl : Nat) (H : List Blk) (r : AV) (H' : List Blk) : Prop := ∃ m, hl ≤ m ∧ H.take m = H' ∧ r.cleanF m = true ∧ ∀ b ∈ H', b.deep = true ∨ ∀ r ∈ b.rows, ∀ c ∈ r, c.cleanF m = true
def finDK (hl : Nat) (H : List Blk) (r : AV) (H' : List Blk) (o : Option (Prop × AV)) : Prop := match o with | some (ob, r') => ob ∧ r' = r ∧ dropT hl H r H' | none => False
@[simp] theorem finDK_some (hl : Nat) (H : List Blk) (r r' : AV) (H' : List Blk) (ob : Prop) : finDK hl H r H' (some (ob, r')) = (ob ∧ r' = r ∧ dropT hl H r H') := rfl
def endD (C : Ctx) (rs : List ResultVar) (hl : Nat) (r : AV) (H' : List Blk) : Exit → ASt → Prop
  | .normal, st => finDK hl st.H r H' (aresults C st rs)
  | .ret, st => finDK hl st.H r H' (aresults C st rs)
  | _, _ => False
@[congr] theorem lazy_endD {C : Ctx} {rs : List ResultVar} {hl : Nat} {r : AV} {H' : List Blk} {ex ex' : Exit} {st st' : ASt} (h : mark ex = ex') (h' : st = st') : endD C rs hl r H' ex st = endD C rs hl r H' ex' st' := by rw [mark_eq] at h; rw [h, h']
@[simp] theorem endD_normal (C : Ctx) (rs : List ResultVar) (hl : Nat) (r : AV) (H' : List Blk) (ρ : List (Nat × AV)) (H : List Blk) : endD C rs hl r H' .normal ⟨ρ, H⟩ = finDK hl H r H' (aresults C ⟨ρ, H⟩ rs) := rfl
@[simp] theorem endD_ret (C : Ctx) (rs : List ResultVar) (hl : Nat) (r : AV) (H' : List Blk) (ρ : List (Nat × AV)) (H : List Blk) : endD C rs hl r H' .ret ⟨ρ, H⟩ = finDK hl H r H' (aresults C ⟨ρ, H⟩ rs) := rfl
theorem rep_drop {C : Ctx} {w w' : World} {X : Nat → Prop} {β β' : List BI} {H H1 : List Blk} {u : Value} {r : AV} (R : HRel w' X β' H1) (S : StepR w β H w' β' H1) (G : GRel C w' (Mu X β' H1)) (hr : Rep w' (Mu X β' H1) β' H1 u r) {H' : List Blk} (hd : dropT H.length H1 r H') :
    ∃ β2, HRel w' X β2 H' ∧ StepR w β H w' β2 H' ∧ Rep w' (Mu X β2 H') β2 H' u r := by
  obtain ⟨m, h1, rfl, h3, h4⟩ := hd
  have hrel : Rel C 1 X w β H ⟨[(0, r)], H1⟩ { tmps := #[u], defers := [] } w' := ⟨β', R, S, fun t => by
    match t with
    | 0 => exact hr
    | t + 1 => exact rep_undef, G, rfl, rfl⟩
  obtain ⟨β2, R2, S2, T2, _⟩ := weak_dropF (C := C) (N := 1) (h0 := H.length) m h1 (fun p hp => by rw [List.mem_singleton] at hp; rw [hp]; exact h3) h4 X w β H _ w' rfl hrel
  exact ⟨β2, R2, S2, T2 0⟩
theorem gen_of_avcD {C : Ctx} (hS : SigOK C) (hM : C.P.follows .mixedOrders = true) (hd : List Nat) {f : FuncId} {fn : Func} {body : Code} {rs : List ResultVar} {n : Nat} (hf : C.P.funcs[f]? = some fn) (hb : fn.body = some body) (hrs : fn.results.toList = rs) (hn : fn.ntmps = n) (hok : codeOKH C hd n body = true) {g : List AV → List Blk → Option (Prop × AV × List Blk)}
    (h : ∀ avs H ob r H', g avs H = some (ob, r, H') → ob → avs.length ≤ n ∧ avcH C hd n H.length body ⟨argsρ 0 avs, H⟩ (endD C rs H.length r H')) : GenOK C.P C.G f g := by
  subst hrs hn
  intro w X β H args avs ob r H' R hG hsz harg hp hob
  obtain ⟨hlen, hav⟩ := h avs H ob r H' hp hob
  refine calls_of_wp hf hb ?_
  have hr : Rel C fn.ntmps X w β H ⟨argsρ 0 avs, H⟩ { tmps := args ++ Array.replicate (fn.ntmps - args.size) undef, defers := [] } w :=
    ⟨β, R, StepR.refl _ _ _ R.len, trel_args hsz harg, hG, by simp; omega, rfl⟩
  refine Code.wp_mono (fun ex a' w' ⟨st', hq, hr'⟩ => ?_) (avcH_sound hS hM body hok hav X w β H _ w rfl hr)
  obtain ⟨β', R', S', T', G', hN', hdef'⟩ := hr'
  have fin : finDK H.length st'.H r H' (aresults C st' fn.results.toList) → bodyPost C.P fn (fun e w' => ∃ v β', e = .returned v ∧ HRel w' X β' H' ∧ StepR w β H w' β' H' ∧ Rep w' (Mu X β' H') β' H' v r) .normal a' w' := by
    intro hk
    unfold finDK at hk
    split at hk
    · rename_i ob' r' hres
      obtain ⟨hob', rfl, hdr⟩ := hk
      obtain ⟨u, hu, hrep⟩ := aresults_sound R' T' hres hob'
      obtain ⟨β2, R2, S2, T2⟩ := rep_drop (C := C) R' S' G' hrep hdr
      exact ⟨hdef', u, hu, u, β2, rfl, R2, S2, T2⟩
    · exact hk.elim
  cases ex with
  | normal => exact fin hq
  | ret => exact fin hq
  | _ => exact hq.elim
end Go.Proofs.YtfoipbjhaiimlaaDoor
