import Derived.Test.YtfoipbjhaiimlaaDoorAmF
/-
  Ends that are weakened; functions that make blocks, typed; a block whose cells are closed. Own work; no program in sight.
-/
namespace Go.Proofs.YtfoipbjhaiimlaaDoor
open Go.RowKit
set_option linter.unusedVariables false

section
variable {C : Ctx} {N h0 : Nat}

theorem AW_end {code : Code} {st : ASt} {Q : Exit → ASt → Prop} (h : AW C N h0 code st fun ex s => ∃ s', Weak C N h0 s s' ∧ Q ex s') : AW C N h0 code st Q := fun X w0 β0 H0 x w hl hr =>
  Code.wp_mono (fun ex a' w' ⟨st', ⟨s', hw, hq⟩, hr'⟩ => ⟨s', hq, hw X w0 β0 H0 a' w' hl hr'⟩) (h X w0 β0 H0 x w hl hr)
/-- What stands at the end, behind a weakening. -/
def wEnd (C : Ctx) (N h0 : Nat) (Q : Exit → ASt → Prop) (ex : Exit) (s : ASt) : Prop := ∃ s', Weak C N h0 s s' ∧ Q ex s'
@[congr] theorem lazy_wEnd {Q : Exit → ASt → Prop} {ex ex' : Exit} {st st' : ASt} (h : mark ex = ex') (h' : st = st') : wEnd C N h0 Q ex st = wEnd C N h0 Q ex' st' := by rw [mark_eq] at h; rw [h, h']
theorem wEnd_here {Q : Exit → ASt → Prop} {ex : Exit} {s : ASt} (h : Q ex s) : wEnd C N h0 Q ex s := ⟨s, Weak.refl s, h⟩
theorem wEnd_nil {Q : Exit → ASt → Prop} {ex : Exit} {ρ : List (Nat × AV)} {H : List Blk} (t sz : Nat) (e : TypeId) (ht : getA ρ t = .slice sz true []) (hz : 0 < sz) (h : Q ex ⟨(t, .own H.length 0) :: ρ, H ++ [⟨e, sz, [], true, true⟩]⟩) : wEnd C N h0 Q ex ⟨ρ, H⟩ :=
  ⟨_, weak_nil t sz e ht hz, h⟩

/-- The cells of a block are closed. -/
theorem weak_close {ρ : List (Nat × AV)} {H : List Blk} (l : Nat) {b : Blk} (hb : H[l]? = some b) (ls : List Nat) (hls : ∀ r ∈ b.rows, ∀ c ∈ r, ∀ k ∈ reach H 6 c, k ∈ ls) (hnl : l ∉ ls) : Weak C N h0 ⟨ρ, H⟩ ⟨ρ, (frzL ls 0 H).set l { b with rows := b.rows.map fun r => r.map (view H 6), deep := true }⟩ := by
  intro X w0 β0 H0 a w hl hr
  obtain ⟨β, R, S0, Tr, G, hN, hdef⟩ := hr
  have hlt := (List.getElem?_eq_some_iff.1 hb).1
  have hlt' : l < (frzL ls 0 H).length := by rw [frzL_length]; exact hlt
  generalize hb' : ({ b with rows := b.rows.map fun r => r.map (view H 6), deep := true } : Blk) = b'
  have e1 : b'.sz = b.sz := by rw [← hb']
  have e2 : b'.e = b.e := by rw [← hb']
  have e3 : b'.rows = b.rows.map fun r => r.map (view H 6) := by rw [← hb']
  have e4 : b'.mu = b.mu := by rw [← hb']
  have hget : ∀ k, k ≠ l → ((frzL ls 0 H).set l b')[k]? = (H[k]?).map fun b => if ls.contains k then { b with mu := false } else b := fun k hk => by
    rw [List.getElem?_set_ne (fun h => hk h.symm), frzL_get]
    simp
  have hself : ((frzL ls 0 H).set l b')[l]? = some b' := List.getElem?_set_self hlt'
  have hmu : ∀ k, Mu X β ((frzL ls 0 H).set l b') k → XL X β H (fun l => l ∈ ls) k := by
    rintro k (h | ⟨j, c, blk, h1, h2, h3⟩)
    · exact .inl h
    · by_cases e : j = l
      · subst e
        rw [hself] at h2
        injection h2 with h2
        subst h2
        exact .inr ⟨j, c, b, h1, hb, by rw [← e4]; exact h3, hnl⟩
      · rw [hget j e] at h2
        simp only [Option.map_eq_some_iff] at h2
        obtain ⟨b0, h4, h5⟩ := h2
        subst h5
        split at h3
        · cases h3
        · rename_i hc
          exact .inr ⟨j, c, b0, h1, h4, h3, by simpa using hc⟩
  have S : StepR w β H w β ((frzL ls 0 H).set l b') := by
    refine ⟨Keeps.refl _ _, ⟨fun k b0 h => ?_, fun k bk c h => .inr ⟨c, h⟩⟩, R.len⟩
    by_cases e : k = l
    · subst e
      rw [hb] at h
      injection h with h
      subst h
      exact ⟨b', hself, e1, e2, by rw [e3]; simp, fun _ => rfl, fun h => by rw [← e4]; exact h⟩
    · refine ⟨_, by rw [hget k e, h]; rfl, ?_, ?_, ?_, fun _ => rfl, ?_⟩ <;> split <;> simp
  have R' : HRel w X β ((frzL ls 0 H).set l b') := by
    refine ⟨by rw [R.len, List.length_set, frzL_length], fun k bi b0 h1 h2 => ?_, R.lt, R.inj, R.base⟩
    by_cases e : k = l
    · subst e
      rw [hself] at h2
      injection h2 with h2
      subst h2
      have hB := R.blk k bi b h1 hb
      cases bi with
      | nil => exact ⟨by rw [e3, hB.1]; rfl, by rw [e1]; exact hB.2⟩
      | lies bk cap =>
        obtain ⟨cur, k1, k2, k3, k4, k5, k6, k7⟩ := hB
        refine ⟨cur, by rw [e2]; exact k1, by rw [e1]; exact k2, by rw [e3]; simpa using k3, k4, by rw [e1]; exact k5, fun r hr => ?_, fun i j r av hr hj => ?_⟩
        · rw [e3] at hr
          obtain ⟨r0, hr0, rfl⟩ := List.mem_map.1 hr
          rw [e1, List.length_map]
          exact k6 r0 hr0
        · rw [e3, List.getElem?_map, Option.map_eq_some_iff] at hr
          obtain ⟨r0, hr0, rfl⟩ := hr
          rw [List.getElem?_map, Option.map_eq_some_iff] at hj
          obtain ⟨av0, hj0, rfl⟩ := hj
          obtain ⟨v, q1, q2, q3, q4⟩ := k7 i j r0 av0 hr0 hj0
          have hv := (view_sound R (fun l => l ∈ ls) 6 q3 (hls r0 (List.mem_of_getElem? hr0) av0 (List.mem_of_getElem? hj0))).mono (X' := Mu X β ((frzL ls 0 H).set k b')) fun b _ hb => hmu b hb
          exact ⟨v, by rw [e1]; exact q1, q2, .deep hv, fun _ => hv⟩
    · rw [hget k e] at h2
      simp only [Option.map_eq_some_iff] at h2
      obtain ⟨b1, h3, h4⟩ := h2
      have hB := (R.blk k bi b1 h1 h3).keep S fun _ _ _ => rfl
      subst h4
      split
      · cases bi with
        | nil => exact hB
        | lies bk c => exact hB
      · exact hB
  exact ⟨β, R', S0.trans S, fun k => (Tr k).keep S, fun g => (G g).keep (fun b hb hn => S.keeps.block b hb (fun hm => hn (.inr hm))) S.keeps.size (fun b hb => S.mu b hb), hN, hdef⟩

/-! ### Functions that make blocks -/
def nspec1 {α : Type} [Enc α] (pre : α → Prop) (res : α → AV) (bl : α → List Blk) : List AV → Option (Prop × AV × List Blk)
  | [a] => some (nrmV a = Enc.enc (Enc.dec a : α) ∧ pre (Enc.dec a), res (Enc.dec a), bl (Enc.dec a))
  | _ => none
def nspec2 {α β : Type} [Enc α] [Enc β] (pre : α → β → Prop) (res : α → β → AV) (bl : α → β → List Blk) : List AV → Option (Prop × AV × List Blk)
  | [a, b] => some (nrmV a = Enc.enc (Enc.dec a : α) ∧ nrmV b = Enc.enc (Enc.dec b : β) ∧ pre (Enc.dec a) (Enc.dec b), res (Enc.dec a) (Enc.dec b), bl (Enc.dec a) (Enc.dec b))
  | _ => none
@[simp] theorem genNew_nspec1 {α : Type} [Enc α] (pre : α → Prop) (res : α → AV) (bl : α → List Blk) (a : AV) (H : List Blk) :
    genNew (nspec1 pre res bl) [a] H = if a.deepArg then some (nrmV a = Enc.enc (Enc.dec a : α) ∧ pre (Enc.dec a), ren (up H.length) (res (Enc.dec a)), H ++ (bl (Enc.dec a)).map (renB (up H.length))) else none := by
  unfold genNew nspec1
  simp only [List.all_cons, List.all_nil, Bool.and_true]
@[simp] theorem genNew_nspec2 {α β : Type} [Enc α] [Enc β] (pre : α → β → Prop) (res : α → β → AV) (bl : α → β → List Blk) (a b : AV) (H : List Blk) :
    genNew (nspec2 pre res bl) [a, b] H = if a.deepArg && b.deepArg then some (nrmV a = Enc.enc (Enc.dec a : α) ∧ nrmV b = Enc.enc (Enc.dec b : β) ∧ pre (Enc.dec a) (Enc.dec b), ren (up H.length) (res (Enc.dec a) (Enc.dec b)), H ++ (bl (Enc.dec a) (Enc.dec b)).map (renB (up H.length))) else none := by
  unfold genNew nspec2
  simp only [List.all_cons, List.all_nil, Bool.and_true]
@[simp] theorem up_eq (k l : Nat) : up k l = l + k := rfl
@[simp] theorem ren_agg (s : Nat → Nat) (cs : List AV) : ren s (.agg cs) = .agg (cs.map (ren1 s)) := rfl
@[simp] theorem ren_own (s : Nat → Nat) (l n : Nat) : ren s (.own l n) = .own (s l) n := rfl
@[simp] theorem ren_ptr (s : Nat → Nat) (l n z i f : Nat) : ren s (.ptr l n z i f) = .ptr (s l) n z i f := rfl
@[simp] theorem ren_tup (s : Nat → Nat) (cs : List AV) : ren s (.tup cs) = .tup (cs.map (ren2 s)) := rfl
@[simp] theorem ren2_agg (s : Nat → Nat) (cs : List AV) : ren2 s (.agg cs) = .agg (cs.map (ren1 s)) := rfl
@[simp] theorem ren2_own (s : Nat → Nat) (l n : Nat) : ren2 s (.own l n) = .own (s l) n := rfl
@[simp] theorem ren2_int (s : Nat → Nat) (k : IntKind) (n : Int) : ren2 s (.int k n) = .int k n := rfl
@[simp] theorem ren2_bool (s : Nat → Nat) (n : Bool) : ren2 s (.bool n) = .bool n := rfl
@[simp] theorem ren2_slice (s : Nat → Nat) (z : Nat) (f : Bool) (r : List (List AV)) : ren2 s (.slice z f r) = .slice z f r := rfl
@[simp] theorem ren1_own (s : Nat → Nat) (l n : Nat) : ren1 s (.own l n) = .own (s l) n := rfl
@[simp] theorem ren1_ptr (s : Nat → Nat) (l n z i f : Nat) : ren1 s (.ptr l n z i f) = .ptr (s l) n z i f := rfl
@[simp] theorem ren1_int (s : Nat → Nat) (k : IntKind) (n : Int) : ren1 s (.int k n) = .int k n := rfl
@[simp] theorem ren1_bool (s : Nat → Nat) (n : Bool) : ren1 s (.bool n) = .bool n := rfl
@[simp] theorem ren1_str (s : Nat → Nat) (n : ByteArray) : ren1 s (.str n) = .str n := rfl
@[simp] theorem ren1_nilptr (s : Nat → Nat) : ren1 s .nilptr = .nilptr := rfl
@[simp] theorem ren1_slice (s : Nat → Nat) (z : Nat) (f : Bool) (r : List (List AV)) : ren1 s (.slice z f r) = .slice z f r := rfl
@[simp] theorem renB_mk (s : Nat → Nat) (e : TypeId) (sz : Nat) (rows : List (List AV)) (mu deep : Bool) : renB s ⟨e, sz, rows, mu, deep⟩ = ⟨e, sz, rows.map fun r => r.map (ren1 s), mu, deep⟩ := rfl
theorem ren_rows {α : Type} [Enc α] (s : Nat → Nat) (h : ∀ x : α, (Enc.cells x).map (ren1 s) = Enc.cells x) (l : List α) : (encRows l).map (fun r => r.map (ren1 s)) = encRows l := by
  unfold encRows
  simp only [List.map_map, Function.comp_def, h]
@[simp] theorem ren_rows_int (s : Nat → Nat) (l : List Int) : (encRows l).map (fun r => r.map (ren1 s)) = encRows l := ren_rows s (fun _ => rfl) l
@[simp] theorem ren_rows_bool (s : Nat → Nat) (l : List Bool) : (encRows l).map (fun r => r.map (ren1 s)) = encRows l := ren_rows s (fun _ => rfl) l
@[simp] theorem ren_rows_list {α : Type} [Enc α] (s : Nat → Nat) (l : List (List α)) : (encRows l).map (fun r => r.map (ren1 s)) = encRows l := ren_rows s (fun _ => rfl) l
theorem ok_rows {α : Type} [Enc α] (m : Nat) (h : ∀ x : α, (Enc.cells x).all (AV.clean1 m) = true) (l : List α) : ((encRows l).all fun r => r.all fun c => c.clean1 m) = true := by
  unfold encRows
  rw [List.all_map, List.all_eq_true]
  exact fun x _ => h x
@[simp] theorem okB_int (m : Nat) (e : TypeId) (sz : Nat) (l : List Int) (mu deep : Bool) : okB m ⟨e, sz, encRows l, mu, deep⟩ = true := ok_rows m (fun _ => rfl) l
@[simp] theorem okB_bool (m : Nat) (e : TypeId) (sz : Nat) (l : List Bool) (mu deep : Bool) : okB m ⟨e, sz, encRows l, mu, deep⟩ = true := ok_rows m (fun _ => rfl) l
@[simp] theorem okB_list {α : Type} [Enc α] (m : Nat) (e : TypeId) (sz : Nat) (l : List (List α)) (mu deep : Bool) : okB m ⟨e, sz, encRows l, mu, deep⟩ = true := ok_rows m (fun _ => rfl) l

/-- What stands at the end, the result being reckoned first. -/
def finNK (H : List Blk) (s : List Nat) (r : AV) (N' : List Blk) (o : Option (Prop × AV)) : Prop := match o with | some (ob, r') => ob ∧ r' = ren (fun l => s.getD l 0) r ∧ s.map (fun i => H[i]?) = N'.map (fun b => some (renB (fun l => s.getD l 0) b)) | none => False
@[simp] theorem finNK_some (H : List Blk) (s : List Nat) (r r' : AV) (N' : List Blk) (ob : Prop) : finNK H s r N' (some (ob, r')) = (ob ∧ r' = ren (fun l => s.getD l 0) r ∧ s.map (fun i => H[i]?) = N'.map (fun b => some (renB (fun l => s.getD l 0) b))) := rfl
@[simp] theorem postN_normal (rs : List ResultVar) (s : List Nat) (r : AV) (N' : List Blk) (ρ : List (Nat × AV)) (H : List Blk) : postN C rs s r N' .normal ⟨ρ, H⟩ = finNK H s r N' (aresults C ⟨ρ, H⟩ rs) := rfl
@[simp] theorem postN_ret (rs : List ResultVar) (s : List Nat) (r : AV) (N' : List Blk) (ρ : List (Nat × AV)) (H : List Blk) : postN C rs s r N' .ret ⟨ρ, H⟩ = finNK H s r N' (aresults C ⟨ρ, H⟩ rs) := rfl
end

section
variable {C : Ctx} (hS : SigOK C) (hM : C.P.follows .mixedOrders = true) {f : FuncId} {fn : Func} {body : Code} {rs : List ResultVar} {n : Nat} (hf : C.P.funcs[f]? = some fn) (hb : fn.body = some body) (hrs : fn.results.toList = rs) (hn : fn.ntmps = n)
include hS hM hf hb hrs hn
theorem new1 {α : Type} [Enc α] (hok : codeOK C n body = true) (hnn : 1 ≤ n) {pre : α → Prop} {res : α → AV} {bl : α → List Blk} (s : α → List Nat) (hs : ∀ a, (s a).Nodup) (ho : ∀ a, okR (bl a).length (res a) = true ∧ (bl a).all (okB (bl a).length) = true)
    (h : ∀ a, pre a → avc C n 0 body ⟨[(0, Enc.enc a)], []⟩ (wEnd C n 0 (postN C rs (s a) (res a) (bl a)))) : GenOK C.P C.G f (genNew (nspec1 pre res bl)) :=
  new_of_AW hf hb hrs hn fun avs ob r' N' hp hob => by
    unfold nspec1 at hp
    split at hp
    · injection hp with hp; injection hp with e1 e2; injection e2 with e2 e3; subst e1 e2 e3
      rename_i a0
      have := h _ hob.2
      rw [← hob.1] at this
      exact ⟨hnn, (ho _).1, (ho _).2, s (Enc.dec a0), hs _, AW_end (avc_sound hS hM body hok this)⟩
    · cases hp
theorem new2 {α β : Type} [Enc α] [Enc β] (hok : codeOK C n body = true) (hnn : 2 ≤ n) {pre : α → β → Prop} {res : α → β → AV} {bl : α → β → List Blk} (s : α → β → List Nat) (hs : ∀ a b, (s a b).Nodup) (ho : ∀ a b, okR (bl a b).length (res a b) = true ∧ (bl a b).all (okB (bl a b).length) = true)
    (h : ∀ a b, pre a b → avc C n 0 body ⟨[(0, Enc.enc a), (1, Enc.enc b)], []⟩ (wEnd C n 0 (postN C rs (s a b) (res a b) (bl a b)))) : GenOK C.P C.G f (genNew (nspec2 pre res bl)) :=
  new_of_AW hf hb hrs hn fun avs ob r' N' hp hob => by
    unfold nspec2 at hp
    split at hp
    · injection hp with hp; injection hp with e1 e2; injection e2 with e2 e3; subst e1 e2 e3
      rename_i a0 b0
      have := h _ _ hob.2.2
      rw [← hob.1, ← hob.2.1] at this
      exact ⟨hnn, (ho _ _).1, (ho _ _).2, s (Enc.dec a0) (Enc.dec b0), hs _ _, AW_end (avc_sound hS hM body hok this)⟩
    · cases hp
end
theorem entryGen {P : Program} {G : Nat → AV} {f : FuncId} {fn : Func} {g : List AV → List Blk → Option (Prop × AV × List Blk)} (h : GenOK P G f g) (hf : P.funcs[f]? = some fn) (hb : fn.body.isSome = true) (hn : fn.name ≠ "runtime.NumGoroutine") : EntryOK P G f (.gen g) := ⟨h, fn, hf, hn, hb⟩
end Go.Proofs.YtfoipbjhaiimlaaDoor

/-
  The condition of a body of which some regions are left to be shown by hand (named by their numbers). Own work; no program in sight.
-/
namespace Go.Proofs.YtfoipbjhaiimlaaDoor
open Go.RowKit
set_option linter.unusedVariables false

def isIn : List Nat → Nat → Bool
  | [], _ => false
  | a :: r, i => a == i || isIn r i
@[simp] theorem isIn_nil (i : Nat) : isIn [] i = false := rfl
@[simp] theorem isIn_cons (a i : Nat) (r : List Nat) : isIn (a :: r) i = (a == i || isIn r i) := rfl

def codeOKH (C : Ctx) (hd : List Nat) (N : Nat) : Code → Bool
  | .region id ops draw => isIn hd id || ((ops.toList.all fun o => match o.dst with | some d => decide (d < N) | none => true) && (!draw || regOK C ops))
  | .seq a b => codeOKH C hd N a && codeOKH C hd N b
  | .cond _ a b => codeOKH C hd N a && codeOKH C hd N b
  | .block _ b => codeOKH C hd N b
  | .scope b => codeOKH C hd N b
  | _ => true
def avcH (C : Ctx) (hd : List Nat) (N h0 : Nat) : Code → ASt → (Exit → ASt → Prop) → Prop
  | .skip, st, Q => Q .normal st
  | .region id ops d, st, Q => if isIn hd id = true then AW C N h0 (.region id ops d) st Q else aops C ops ops.toList st (Q .normal)
  | .seq a b, st, Q => avcH C hd N h0 a st (goOn (fun st' => avcH C hd N h0 b st' Q) Q)
  | .cond c a b, st, Q => onBool (aev C st.ρ 0 c) fun x => both x (avcH C hd N h0 a st Q) (avcH C hd N h0 b st Q)
  | .block id b, st, Q => avcH C hd N h0 b st (outOf id Q)
  | .exit id, st, Q => Q (.exit id) st
  | .ret, st, Q => Q .ret st
  | .label _, st, Q => Q .normal st
  | .scope b, st, Q => avcH C hd N h0 b st (inScope Q)
  | .loop b, st, Q => AW C N h0 (.loop b) st Q
  | _, _, _ => False

section
variable {C : Ctx} {hd : List Nat} {N h0 : Nat}
@[congr] theorem avcH_congr {code : Code} {st st' : ASt} {Q : Exit → ASt → Prop} (h : mark st = st') : avcH C hd N h0 code st Q = avcH C hd N h0 code st' Q := by rw [mark_eq] at h; rw [h]
@[simp] theorem avcH_skip (st : ASt) (Q : Exit → ASt → Prop) : avcH C hd N h0 .skip st Q = Q .normal st := rfl
@[simp] theorem avcH_region (id : Nat) (l : List Oper) (d : Bool) (st : ASt) (Q : Exit → ASt → Prop) : avcH C hd N h0 (.region id l.toArray d) st Q = if isIn hd id = true then AW C N h0 (.region id l.toArray d) st Q else aops C l.toArray l st (Q .normal) := rfl
@[simp] theorem avcH_seq (a b : Code) (st : ASt) (Q : Exit → ASt → Prop) : avcH C hd N h0 (.seq a b) st Q = avcH C hd N h0 a st (goOn (fun st' => avcH C hd N h0 b st' Q) Q) := rfl
@[simp] theorem avcH_cond (c : Operand) (a b : Code) (st : ASt) (Q : Exit → ASt → Prop) : avcH C hd N h0 (.cond c a b) st Q = onBool (aev C st.ρ 0 c) fun x => both x (avcH C hd N h0 a st Q) (avcH C hd N h0 b st Q) := rfl
@[simp] theorem avcH_block (id : Nat) (b : Code) (st : ASt) (Q : Exit → ASt → Prop) : avcH C hd N h0 (.block id b) st Q = avcH C hd N h0 b st (outOf id Q) := rfl
@[simp] theorem avcH_exit (id : Nat) (st : ASt) (Q : Exit → ASt → Prop) : avcH C hd N h0 (.exit id) st Q = Q (.exit id) st := rfl
@[simp] theorem avcH_ret (st : ASt) (Q : Exit → ASt → Prop) : avcH C hd N h0 .ret st Q = Q .ret st := rfl
@[simp] theorem avcH_label (l : Nat) (st : ASt) (Q : Exit → ASt → Prop) : avcH C hd N h0 (.label l) st Q = Q .normal st := rfl
@[simp] theorem avcH_scope (b : Code) (st : ASt) (Q : Exit → ASt → Prop) : avcH C hd N h0 (.scope b) st Q = avcH C hd N h0 b st (inScope Q) := rfl
@[simp] theorem avcH_loop (b : Code) (st : ASt) (Q : Exit → ASt → Prop) : avcH C hd N h0 (.loop b) st Q = AW C N h0 (.loop b) st Q := rfl

theorem AW_condV {c : Operand} {x y : Code} {st : ASt} {Q : Exit → ASt → Prop} (h : onBool (aev C st.ρ 0 c) fun b => both b (AW C N h0 x st Q) (AW C N h0 y st Q)) : AW C N h0 (.cond c x y) st Q := fun X w0 β0 H0 a w hl hr => by
  have hr0 := hr
  obtain ⟨β, R, S0, Tr, G, hN, hdef⟩ := hr0
  have hE := aev_sound Tr G 0 c
  unfold onBool at h
  split at h
  · rename_i b hb
    rw [hb] at hE
    exact wp_cond_split (rep_bool hE) (fun ht => h.1 ht X w0 β0 H0 a w hl hr) (fun hf => h.2 hf X w0 β0 H0 a w hl hr)
  · rename_i hb
    rw [hb] at hE
    obtain ⟨b, hb'⟩ := rep_anyb hE
    exact wp_cond_split hb' (fun _ => h.1.1 rfl X w0 β0 H0 a w hl hr) (fun _ => h.2.2 rfl X w0 β0 H0 a w hl hr)
  · exact h.elim
theorem AW_scope {b : Code} {st : ASt} {Q : Exit → ASt → Prop} (h : AW C N h0 b st (inScope Q)) : AW C N h0 (.scope b) st Q := fun X w0 β0 H0 a w hl hr => by
  refine wp_scope_straight (Code.wp_mono (fun ex a' w' ⟨st', hq, hr'⟩ => ?_) (h X w0 β0 H0 a w hl hr))
  cases ex with
  | goto l => exact hq
  | _ => exact ⟨st', hq, hr'⟩

theorem avcH_sound (hS : SigOK C) (hM : C.P.follows .mixedOrders = true) : ∀ (code : Code) {st : ASt} {Q : Exit → ASt → Prop}, codeOKH C hd N code = true → avcH C hd N h0 code st Q → AW C N h0 code st Q
  | .skip, st, Q, _, h => avc_sound hS hM .skip rfl h
  | .region id ops draw, st, Q, hok, h => by
    unfold avcH at h
    split at h
    · exact h
    · rename_i hi
      unfold codeOKH at hok
      rw [Bool.or_eq_true] at hok
      exact avc_sound hS hM (.region id ops draw) (hok.resolve_left hi) h
  | .seq x y, st, Q, hok, h => by
    simp only [codeOKH, Bool.and_eq_true] at hok
    refine AW_seq (AW.mono (avcH_sound hS hM x hok.1 h) fun ex st' hq => ?_)
    cases ex with
    | normal => exact avcH_sound hS hM y hok.2 hq
    | _ => exact hq
  | .cond c x y, st, Q, hok, h => by
    simp only [codeOKH, Bool.and_eq_true] at hok
    rw [avcH_cond] at h
    refine AW_condV ?_
    have key : ∀ v : AV, (onBool v fun b => both b (avcH C hd N h0 x st Q) (avcH C hd N h0 y st Q)) → onBool v fun b => both b (AW C N h0 x st Q) (AW C N h0 y st Q) := by
      intro v hv
      unfold onBool at hv ⊢
      split at hv
      · exact ⟨fun hb => avcH_sound hS hM x hok.1 (hv.1 hb), fun hb => avcH_sound hS hM y hok.2 (hv.2 hb)⟩
      · exact ⟨⟨fun hb => avcH_sound hS hM x hok.1 (hv.1.1 hb), fun hb => (by cases hb)⟩, ⟨fun hb => (by cases hb), fun hb => avcH_sound hS hM y hok.2 (hv.2.2 hb)⟩⟩
      · exact hv
    exact key _ h
  | .block id b, st, Q, hok, h => AW_block (avcH_sound hS hM b (by simpa only [codeOKH] using hok) h)
  | .exit id, st, Q, _, h => avc_sound hS hM (.exit id) rfl h
  | .ret, st, Q, _, h => avc_sound hS hM .ret rfl h
  | .label l, st, Q, _, h => avc_sound hS hM (.label l) rfl h
  | .scope b, st, Q, hok, h => AW_scope (avcH_sound hS hM b (by simpa only [codeOKH] using hok) h)
  | .loop b, st, Q, _, h => h
  | .goto _, _, _, _, h => h.elim
  | .rangeFunc .., _, _, _, h => h.elim
  | .refuse _, _, _, _, h => h.elim

/-- A region in the order of its text. -/
theorem AW_regionS (hS : SigOK C) (hM : C.P.follows .mixedOrders = true) {id : Nat} {l : List Oper} {st : ASt} {Q : Exit → ASt → Prop} (hok : (l.all fun o => match o.dst with | some d => decide (d < N) | none => true) = true) (h : aops C l.toArray l st (Q .normal)) : AW C N h0 (.region id l.toArray false) st Q :=
  avc_sound hS hM (.region id l.toArray false) (by simp only [codeOK, Bool.not_false, Bool.true_or, Bool.and_true]; exact hok) h

theorem loop_ruleH {α : Type} (hS : SigOK C) (hM : C.P.follows .mixedOrders = true) (hd : List Nat) {body : Code} {st : ASt} {Q : Exit → ASt → Prop} (Sf : α → ASt) (pre : α → Prop) (m : α → Nat) (hok : codeOKH C hd N body = true)
    (start : ∃ x, pre x ∧ Weak C N h0 st (Sf x)) (step : ∀ x, pre x → avcH C hd N h0 body (Sf x) (round Sf pre (fun x' => m x' < m x) N h0 C Q)) : AW C N h0 (.loop body) st Q :=
  AW_loopW Sf pre m start fun x hx => avcH_sound hS hM body hok (step x hx)
end

section
variable {C : Ctx} (hS : SigOK C) (hM : C.P.follows .mixedOrders = true) {f : FuncId} {fn : Func} {body : Code} {rs : List ResultVar} {n : Nat} (hf : C.P.funcs[f]? = some fn) (hb : fn.body = some body) (hrs : fn.results.toList = rs) (hn : fn.ntmps = n) (hd : List Nat)
include hS hM hf hb hrs hn
theorem pureH0 (hok : codeOKH C hd n body = true) {r : AV} (h : avcH C hd n 0 body ⟨[], []⟩ (postP C rs r)) : PureOK C.P C.G f (spec0 r) :=
  pure_of_AW hf hb hrs hn fun avs ob r' hp hob => by
    unfold spec0 at hp
    split at hp
    · injection hp with hp; injection hp with e1 e2; subst e1 e2
      exact ⟨Nat.zero_le _, avcH_sound hS hM body hok h⟩
    · cases hp
theorem pureH1 {α : Type} [Enc α] (hok : codeOKH C hd n body = true) (hnn : 1 ≤ n) {pre : α → Prop} {res : α → AV} (h : ∀ a, pre a → avcH C hd n 0 body ⟨[(0, Enc.enc a)], []⟩ (postP C rs (res a))) : PureOK C.P C.G f (spec1 pre res) :=
  pure_of_AW hf hb hrs hn fun avs ob r' hp hob => by
    unfold spec1 at hp
    split at hp
    · injection hp with hp; injection hp with e1 e2; subst e1 e2
      have := h _ hob.2
      rw [← hob.1] at this
      exact ⟨hnn, avcH_sound hS hM body hok this⟩
    · cases hp
theorem pureH2 {α β : Type} [Enc α] [Enc β] (hok : codeOKH C hd n body = true) (hnn : 2 ≤ n) {pre : α → β → Prop} {res : α → β → AV} (h : ∀ a b, pre a b → avcH C hd n 0 body ⟨[(0, Enc.enc a), (1, Enc.enc b)], []⟩ (postP C rs (res a b))) : PureOK C.P C.G f (spec2 pre res) :=
  pure_of_AW hf hb hrs hn fun avs ob r' hp hob => by
    unfold spec2 at hp
    split at hp
    · injection hp with hp; injection hp with e1 e2; subst e1 e2
      have := h _ _ hob.2.2
      rw [← hob.1, ← hob.2.1] at this
      exact ⟨hnn, avcH_sound hS hM body hok this⟩
    · cases hp
theorem pureH3 {α β γ : Type} [Enc α] [Enc β] [Enc γ] (hok : codeOKH C hd n body = true) (hnn : 3 ≤ n) {pre : α → β → γ → Prop} {res : α → β → γ → AV} (h : ∀ a b c, pre a b c → avcH C hd n 0 body ⟨[(0, Enc.enc a), (1, Enc.enc b), (2, Enc.enc c)], []⟩ (postP C rs (res a b c))) : PureOK C.P C.G f (spec3 pre res) :=
  pure_of_AW hf hb hrs hn fun avs ob r' hp hob => by
    unfold spec3 at hp
    split at hp
    · injection hp with hp; injection hp with e1 e2; subst e1 e2
      have := h _ _ _ hob.2.2.2
      rw [← hob.1, ← hob.2.1, ← hob.2.2.1] at this
      exact ⟨hnn, avcH_sound hS hM body hok this⟩
    · cases hp
theorem newH1 {α : Type} [Enc α] (hok : codeOKH C hd n body = true) (hnn : 1 ≤ n) {pre : α → Prop} {res : α → AV} {bl : α → List Blk} (s : α → List Nat) (hs : ∀ a, (s a).Nodup) (ho : ∀ a, okR (bl a).length (res a) = true ∧ (bl a).all (okB (bl a).length) = true)
    (h : ∀ a, pre a → avcH C hd n 0 body ⟨[(0, Enc.enc a)], []⟩ (wEnd C n 0 (postN C rs (s a) (res a) (bl a)))) : GenOK C.P C.G f (genNew (nspec1 pre res bl)) :=
  new_of_AW hf hb hrs hn fun avs ob r' N' hp hob => by
    unfold nspec1 at hp
    split at hp
    · injection hp with hp; injection hp with e1 e2; injection e2 with e2 e3; subst e1 e2 e3
      rename_i a0
      have := h _ hob.2
      rw [← hob.1] at this
      exact ⟨hnn, (ho _).1, (ho _).2, s (Enc.dec a0), hs _, AW_end (avcH_sound hS hM body hok this)⟩
    · cases hp
theorem newH2 {α β : Type} [Enc α] [Enc β] (hok : codeOKH C hd n body = true) (hnn : 2 ≤ n) {pre : α → β → Prop} {res : α → β → AV} {bl : α → β → List Blk} (s : α → β → List Nat) (hs : ∀ a b, (s a b).Nodup) (ho : ∀ a b, okR (bl a b).length (res a b) = true ∧ (bl a b).all (okB (bl a b).length) = true)
    (h : ∀ a b, pre a b → avcH C hd n 0 body ⟨[(0, Enc.enc a), (1, Enc.enc b)], []⟩ (wEnd C n 0 (postN C rs (s a b) (res a b) (bl a b)))) : GenOK C.P C.G f (genNew (nspec2 pre res bl)) :=
  new_of_AW hf hb hrs hn fun avs ob r' N' hp hob => by
    unfold nspec2 at hp
    split at hp
    · injection hp with hp; injection hp with e1 e2; injection e2 with e2 e3; subst e1 e2 e3
      rename_i a0 b0
      have := h _ _ hob.2.2
      rw [← hob.1, ← hob.2.1] at this
      exact ⟨hnn, (ho _ _).1, (ho _ _).2, s (Enc.dec a0) (Enc.dec b0), hs _ _, AW_end (avcH_sound hS hM body hok this)⟩
    · cases hp
end
end Go.Proofs.YtfoipbjhaiimlaaDoor
