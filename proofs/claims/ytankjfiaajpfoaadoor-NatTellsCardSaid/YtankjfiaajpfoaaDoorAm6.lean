/-
  Soundness of the operations that look at no block, second part. Own work; no program in sight.
-/
import Derived.Test.YtankjfiaajpfoaaDoorAm5
import Derived.Laws.Cover3
namespace Go.Proofs.YtankjfiaajpfoaaDoor
open Go.RowKit

section
variable {C : Ctx} {w : World} {X : Nat → Prop} {β : List BI} {H : List Blk}

theorem ptrT_eq {P : Program} {t : TypeId} (h : ptrT P t = true) : ∃ e, P.underlying t = some (.pointer e) := by
  unfold ptrT at h
  split at h
  · rename_i e he; exact ⟨e, he⟩
  · cases h

theorem run_equalIn_ptrL {P : Program} (w : World) (d : Nat) (t e : TypeId) (a : Option Addr) (h : P.underlying t = some (.pointer e)) : (Op.equalIn (d + 1) t (.pointer none) (.pointer a)).run P w = .ok a.isNone w := by
  cases a <;> simp [Op.equalIn, run_underlying h]
theorem run_equalIn_ptrR {P : Program} (w : World) (d : Nat) (t e : TypeId) (a : Option Addr) (h : P.underlying t = some (.pointer e)) : (Op.equalIn (d + 1) t (.pointer a) (.pointer none)).run P w = .ok a.isNone w := by
  cases a <;> simp [Op.equalIn, run_underlying h]
theorem run_equal_ptrL {P : Program} (w : World) (t e : TypeId) (a : Option Addr) (h : P.underlying t = some (.pointer e)) : (Op.equal t (.pointer none) (.pointer a)).run P w = .ok a.isNone w := run_equalIn_ptrL w 9999 t e a h
theorem run_equal_ptrR {P : Program} (w : World) (t e : TypeId) (a : Option Addr) (h : P.underlying t = some (.pointer e)) : (Op.equal t (.pointer a) (.pointer none)).run P w = .ok a.isNone w := run_equalIn_ptrR w 9999 t e a h

theorem ptrCmp_sound {op : BinOp} {t : TypeId} {a a' : Option Addr} {b : Bool} {ob : Prop} {r : AV} (hp : ptrT C.P t = true) (h : abinP op b = some (ob, r)) {ox oy : Operand}
    (he : ∀ e, C.P.underlying t = some (.pointer e) → (Op.equal t (.pointer a) (.pointer a')).run C.P w = .ok b w) :
    ∃ u, ((do eqGuard op t ox oy (.pointer a) (.pointer a'); binOp op t (.pointer a) (.pointer a') : Sem Value)).run C.P w = .ok u w ∧ Rep w X β H u r := by
  obtain ⟨e, hu⟩ := ptrT_eq hp
  have he := he e hu
  unfold abinP at h
  split at h
  · injection h with h; injection h with h1 h2; subst h1 h2
    refine ⟨_, ?_, .deep (.bool _)⟩
    simp [eqGuard, binOp, he]
  · injection h with h; injection h with h1 h2; subst h1 h2
    refine ⟨_, ?_, .deep (.bool _)⟩
    simp [eqGuard, binOp, he]
  · cases h

theorem abin_sound {op : BinOp} {t : TypeId} {x y : AV} {ob : Prop} {r : AV} (h : abin C op t x y = some (ob, r)) (hob : ob) {vx vy : Value} (hx : Rep w X β H vx x) (hy : Rep w X β H vy y) (ox oy : Operand) :
    ∃ u, ((do eqGuard op t ox oy vx vy; binOp op t vx vy : Sem Value)).run C.P w = .ok u w ∧ Rep w X β H u r := by
  unfold abin at h
  split at h
  · obtain rfl := rep_int hx
    obtain rfl := rep_int hy
    split at h
    · injection h with h
      injection h with h1 h2
      subst h1 h2
      refine ⟨_, ?_, .deep (.int _ _)⟩
      simp [eqGuard, binOp, Op.shift, Int.not_lt.2 hob]
    · injection h with h
      injection h with h1 h2
      subst h1 h2
      refine ⟨_, ?_, .deep (.int _ _)⟩
      simp [eqGuard, binOp, Op.shift, Int.not_lt.2 hob]
    · rename_i n1 n2
      split at h
      · rename_i hk
        subst hk
        obtain ⟨u, h1, h2⟩ := abinI_sound h hob t ox oy ⟨n1, n2⟩ (C := C) (w := w) (X := X)
        exact ⟨u, h1, .deep h2⟩
      · cases h
  · obtain rfl := rep_str hx
    obtain rfl := rep_str hy
    obtain ⟨u, h1, h2⟩ := abinS_sound h hob t ox oy (C := C) (w := w) (X := X)
    exact ⟨u, h1, .deep h2⟩
  · obtain rfl := rep_bool hx
    obtain rfl := rep_bool hy
    split at h
    · rename_i hb
      have hb := boolT_eq hb
      split at h
      · injection h with h; injection h with h1 h2; subst h1 h2
        refine ⟨_, ?_, .deep (.bool _)⟩
        simp [eqGuard, binOp, Op.equal, Op.maxDepth, run_equalIn_bool' _ _ _ _ _ hb]
      · injection h with h; injection h with h1 h2; subst h1 h2
        refine ⟨_, ?_, .deep (.bool _)⟩
        simp [eqGuard, binOp, Op.equal, Op.maxDepth, run_equalIn_bool' _ _ _ _ _ hb]
      · cases h
    · cases h
  · rename_i as bs
    obtain ⟨cs, val, rfl, hl, hm, hv⟩ := rep_agg hx
    obtain ⟨ds, val', rfl, hl', hm', hv'⟩ := rep_agg hy
    split at h
    · rename_i fk hfk
      unfold flatT at hfk
      split at hfk
      · rename_i fs hfs
        split at hfk
        · cases hfk
        · rename_i hh
          have hh1 : C.P.stoodInHeld t = false := by cases h1 : C.P.stoodInHeld t <;> simp_all
          have hh2 : C.P.eqGuardType C.P.depth t = false := by cases h1 : C.P.eqGuardType C.P.depth t <;> simp_all
          have hfo : C.P.fieldsOf t = fs := by unfold Program.fieldsOf; rw [hfs]
          have key : ∀ e, eqCells fk as bs = some e → (Op.equalIn 10000 t (.agg cs) (.agg ds)).run C.P w = .ok e w := by
            intro e he
            rw [run_equalIn_struct w 9999 t cs ds (by rw [hfo]; exact hfs) hh1, hfo]
            refine eqCells_sound (X := X) (β := β) (H := H) 9998 fs.toList fk 0 as bs e hfk he (fun j x hj => ?_) (fun j x hj => ?_)
            · rw [Nat.zero_add]; exact ⟨_, (hm j (List.getElem?_eq_some_iff.1 hj).1).1, hv j x hj⟩
            · rw [Nat.zero_add]; exact ⟨_, (hm' j (List.getElem?_eq_some_iff.1 hj).1).1, hv' j x hj⟩
          split at h
          · rename_i e he
            injection h with h; injection h with h1 h2; subst h1 h2
            refine ⟨.bool e, ?_, .deep (.bool _)⟩
            rw [Sem.run_bind, run_eqGuard_agg w _ t ox oy cs ds hh2, Result.andThen_ok, run_eql_struct, key e he]
            rfl
          · rename_i e he
            injection h with h; injection h with h1 h2; subst h1 h2
            refine ⟨.bool (!e), ?_, .deep (.bool _)⟩
            rw [Sem.run_bind, run_eqGuard_agg w _ t ox oy cs ds hh2, Result.andThen_ok, run_neq_struct, key e he]
            rfl
          · cases h
      · cases hfk
    · cases h
  · obtain rfl := rep_nilptr hx
    obtain rfl := rep_nilptr hy
    split at h
    · rename_i hp
      exact ptrCmp_sound hp h (b := true) (fun _ h1 => run_equal_ptrL _ _ _ none h1)
    · cases h
  · obtain rfl := rep_nilptr hx
    obtain ⟨a, _, rfl, _⟩ := rep_ptr hy
    split at h
    · rename_i hp
      exact ptrCmp_sound hp h (b := false) (fun _ h1 => run_equal_ptrL _ _ _ _ h1)
    · cases h
  · obtain rfl := rep_nilptr hy
    obtain ⟨a, _, rfl, _⟩ := rep_ptr hx
    split at h
    · rename_i hp
      exact ptrCmp_sound hp h (b := false) (fun _ h1 => run_equal_ptrR _ _ _ _ h1)
    · cases h
  · obtain rfl := rep_nilptr hx
    have hy := rep_iptr hy
    cases hy
    split at h
    · rename_i hp
      exact ptrCmp_sound hp h (b := false) (fun _ h1 => run_equal_ptrL _ _ _ _ h1)
    · cases h
  · obtain rfl := rep_nilptr hy
    have hx := rep_iptr hx
    cases hx
    split at h
    · rename_i hp
      exact ptrCmp_sound hp h (b := false) (fun _ h1 => run_equal_ptrR _ _ _ _ h1)
    · cases h
  · cases h

/-- A slice against nil. -/
theorem abinN_sound {op : BinOp} {t : TypeId} {x : AV} {ob : Prop} {r : AV} (h : abinN C op t x = some (ob, r)) {vx : Value} (hx : Rep w X β H vx x) (ox oy : Operand) :
    ∃ u, ((do eqGuard op t ox oy vx (.slice none 0 0); binOp op t vx (.slice none 0 0) : Sem Value)).run C.P w = .ok u w ∧ Rep w X β H u r := by
  unfold abinN at h
  split at h
  · rename_i e he
    have he := elT_eq he
    have hs : ∀ a l c (b : Bool), vx = .slice a l c → (op = .eql ∧ b = false ∨ op = .neq ∧ b = true) → (l ≠ 0 → ∃ x, a = some x) → r = (if l = 0 then .anyb else .bool b) → ∃ u, ((do eqGuard op t ox oy vx (.slice none 0 0); binOp op t vx (.slice none 0 0) : Sem Value)).run C.P w = .ok u w ∧ Rep w X β H u r := by
      rintro a l c b rfl ho ha rfl
      rcases ho with ⟨rfl, rfl⟩ | ⟨rfl, rfl⟩
      · refine ⟨.bool a.isNone, by simp [eqGuard, binOp, run_equal_slice_nil w t e a l c he], ?_⟩
        split
        · exact .deep (.anyb _)
        · rename_i h0
          obtain ⟨x, rfl⟩ := ha h0
          exact .deep (.bool _)
      · refine ⟨.bool (!a.isNone), by simp [eqGuard, binOp, run_equal_slice_nil w t e a l c he], ?_⟩
        split
        · exact .deep (.anyb _)
        · rename_i h0
          obtain ⟨x, rfl⟩ := ha h0
          exact .deep (.bool _)
    have hd : ∀ {sz : Nat} {full : Bool} {rows : List (List AV)}, RepD w X vx (.slice sz full rows) → ∃ a c, vx = .slice a rows.length c ∧ (rows.length ≠ 0 → ∃ x, a = some x) := by
      intro sz full rows h
      cases h with
      | slice _ _ _ a n cap val hn h1 h2 h3 hr hm hv =>
        subst hn
        exact ⟨a, cap, rfl, fun h0 => let ⟨b, off, h, _⟩ := hm h0; ⟨_, h⟩⟩
    split at h
    · injection h with h; injection h with h1 h2; subst h1 h2
      obtain ⟨a, c, h1, h2⟩ := hd (rep_slice hx)
      exact hs _ _ _ false h1 (.inl ⟨rfl, rfl⟩) h2 rfl
    · injection h with h; injection h with h1 h2; subst h1 h2
      obtain ⟨a, c, h1, h2⟩ := hd (rep_slice hx)
      exact hs _ _ _ true h1 (.inr ⟨rfl, rfl⟩) h2 rfl
    · injection h with h; injection h with h1 h2; subst h1 h2
      obtain ⟨a, c, _, h1, _, _, h2, _⟩ := rep_own hx
      exact hs _ _ _ false h1 (.inl ⟨rfl, rfl⟩) (fun h0 => h2.resolve_left h0) rfl
    · injection h with h; injection h with h1 h2; subst h1 h2
      obtain ⟨a, c, _, h1, _, _, h2, _⟩ := rep_own hx
      exact hs _ _ _ true h1 (.inr ⟨rfl, rfl⟩) (fun h0 => h2.resolve_left h0) rfl
    · cases h
  · cases h

theorem aun_sound {op : UnOp} {x : AV} {ob : Prop} {r : AV} (h : aun op x = some (ob, r)) {vx : Value} (hx : Rep w X β H vx x) : ∃ u, (Op.unary op vx).run C.P w = .ok u w ∧ Rep w X β H u r := by
  unfold aun at h
  split at h
  · injection h with h; injection h with h1 h2; subst h1 h2
    obtain rfl := rep_int hx
    refine ⟨_, ?_, .deep (.int _ _)⟩
    simp [Op.unary, Op.intArith]
  · injection h with h; injection h with h1 h2; subst h1 h2
    obtain rfl := rep_bool hx
    refine ⟨_, ?_, .deep (.bool _)⟩
    simp [Op.unary]
  · injection h with h; injection h with h1 h2; subst h1 h2
    obtain ⟨b, rfl⟩ := rep_anyb hx
    refine ⟨.bool (!b), ?_, .deep (.anyb _)⟩
    simp [Op.unary]
  · cases h

/-- The part of an aggregate's cells from off on. -/
theorem headV_part {ty : TypeId} {off : Nat} {cells : List AV} {ob : Prop} {r : AV} (h : headV C ty (cells.drop off) = some (ob, r)) (hob : ob) {cs : Array Value} {val : Nat → Value} (hl : cs.size = cells.length)
    (hm : ∀ j, j < cells.length → cs[j]? = some (val j) ∧ (val j).oneCell' = true) (hv : ∀ j u, cells[j]? = some u → Rep w X β H (val j) u) : ∃ u, (part ty cs off).run C.P w = .ok u w ∧ Rep w X β H u r := by
  unfold headV at h
  split at h
  · rename_i ht
    split at h
    · cases h
    · rename_i hz
      injection h with h; injection h with h1 h2; subst h1 h2
      rw [List.length_drop] at hob
      refine ⟨.agg (cs.extract off (off + szT C.P ty)), ?_, .agg _ _ (fun j => val (off + j)) ?_ (fun j hj => ?_) (fun j u hu => ?_)⟩
      · simp [part, run_isAgg ht, run_sizeOf (Nat.pos_of_ne_zero hz)]
      · simp; omega
      · simp only [List.length_take, List.length_drop] at hj
        have := hm (off + j) (by omega)
        refine ⟨?_, this.2⟩
        rw [Array.getElem?_extract]
        rw [if_pos (by omega)]
        exact this.1
      · rw [List.getElem?_take] at hu
        split at hu
        · rw [List.getElem?_drop] at hu
          exact hv _ _ hu
        · cases hu
  · rename_i ht
    injection h with h; injection h with h1 h2; subst h1 h2
    rw [List.length_drop] at hob
    have h1 := hm off (by omega)
    refine ⟨val off, run_part1 ht h1.1 w, ?_⟩
    have h2 : cells[off]? = some (cells[off]'(by omega)) := List.getElem?_eq_getElem _
    have h3 : (cells.drop off).getD 0 .undef = cells[off]'(by omega) := by
      rw [List.getD_eq_getElem?_getD, List.getElem?_drop, Nat.add_zero, h2]
      rfl
    rw [h3]
    exact hv _ _ h2
  · cases h

theorem afield_sound {t : TypeId} {x : AV} {k : Nat} {ob : Prop} {r : AV} (h : afield C t x k = some (ob, r)) (hob : ob) {vx : Value} (hx : Rep w X β H vx x) : ∃ u, (Instr.field t vx k).run C.P w = .ok u w ∧ Rep w X β H u r := by
  unfold afield at h
  split at h
  · rename_i cells off ty hf
    obtain ⟨cs, val, rfl, hl, hm, hv⟩ := rep_agg hx
    obtain ⟨fs, f, h1, h2, rfl, rfl⟩ := fldT_eq hf
    obtain ⟨u, h3, h4⟩ := headV_part h hob hl hm hv
    refine ⟨u, ?_, h4⟩
    simp [Instr.field, run_underlying h1, h2, asAgg, h3]
  · cases h

theorem add_eq (b off n : Nat) : (⟨b, off, none⟩ : Addr).add n = ⟨b, off + n, none⟩ := Addr.add_lit b off n

theorem iptr_drop {b off n : Nat} {cells : List AV} (h : RepD w X (.pointer (some ⟨b, off, none⟩)) (.iptr cells)) : RepD w X (.pointer (some ⟨b, off + n, none⟩)) (.iptr (cells.drop n)) := by
  cases h with
  | iptr _ _ _ val hb hX hm hv =>
    refine .iptr b (off + n) _ (fun j => val (n + j)) hb hX (fun j hj => ?_) (fun j v hj => ?_)
    · rw [List.length_drop] at hj
      have := hm (n + j) (by omega)
      rwa [← Nat.add_assoc] at this
    · rw [List.getElem?_drop] at hj
      exact hv _ _ hj

theorem iptr_form {v : Value} {cells : List AV} (h : RepD w X v (.iptr cells)) : ∃ b off, v = .pointer (some ⟨b, off, none⟩) := by
  cases h with
  | iptr b off _ val hb hX hm hv => exact ⟨b, off, rfl⟩

theorem ptr_add {l n sz i f k : Nat} {ad : Addr} (h : Rep w X β H (.pointer (some ad)) (.ptr l n sz i f)) : Rep w X β H (.pointer (some (ad.add k))) (.ptr l n sz i (f + k)) := by
  obtain ⟨a, b, e, hb, hn, hx⟩ := rep_ptr h
  injection e with e; injection e with e; subst e
  refine .ptr l n sz i (f + k) _ b hb hn fun e1 e2 hi => ?_
  obtain ⟨bk, cap, h1, rfl⟩ := hx e1 e2 hi
  exact ⟨bk, cap, h1, by rw [add_eq]; congr 1; omega⟩

theorem afieldAddr_sound {t : TypeId} {x : AV} {k : Nat} {ob : Prop} {r : AV} (h : afieldAddr C t x k = some (ob, r)) {vx : Value} (hx : Rep w X β H vx x) : ∃ u, (Instr.fieldAt t vx k).run C.P w = .ok u w ∧ Rep w X β H u r := by
  unfold afieldAddr at h
  split at h
  · rename_i off ty hf
    split at h
    · cases h
    · rename_i hz
      obtain ⟨fs, f, h1, h2, rfl, rfl⟩ := fldT_eq hf
      have hrun : ∀ a : Addr, (Instr.fieldAt t (.pointer (some a)) k).run C.P w = .ok (.pointer (some (a.add f.offset))) w := by
        intro a
        simp [Instr.fieldAt, run_underlying h1, h2, Instr.sureAddr, fieldPlace, run_sizeOf (Nat.pos_of_ne_zero hz), hz]
      split at h
      · injection h with h; injection h with h1 h2; subst h1 h2
        obtain ⟨a, b, rfl, _⟩ := rep_ptr hx
        exact ⟨_, hrun a, ptr_add hx⟩
      · injection h with h; injection h with h1 h2; subst h1 h2
        have hd := rep_iptr hx
        obtain ⟨b, o, rfl⟩ := iptr_form hd
        refine ⟨_, hrun _, .deep ?_⟩
        rw [add_eq]
        exact iptr_drop hd
      · cases h
  · cases h

end
end Go.Proofs.YtankjfiaajpfoaaDoor
