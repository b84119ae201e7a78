/-
  Soundness of the operations that look at no block, put together. Own work; no program in sight.
-/
import Derived.Test.YtankjfiaajpfoaaDoorAm9
namespace Go.Proofs.YtankjfiaajpfoaaDoor
open Go.RowKit

section
variable {C : Ctx} {w : World} {X : Nat → Prop} {β : List BI} {H : List Blk}

theorem bytesRows_get {s : ByteArray} {i : Nat} {r : List AV} (h : (bytesRows s)[i]? = some r) : ∃ hi : i < s.data.size, r = [.int .u8 ((s.data[i]'hi).toNat : Int)] := by
  unfold bytesRows at h
  rw [List.getElem?_map] at h
  simp only [Array.getElem?_toList, Option.map_eq_some_iff] at h
  obtain ⟨c, hc, rfl⟩ := h
  obtain ⟨hi, rfl⟩ := Array.getElem?_eq_some_iff.1 hc
  exact ⟨hi, rfl⟩

theorem bytesRows_length (s : ByteArray) : (bytesRows s).length = s.size := by
  unfold bytesRows
  simp

theorem aconv_sound (hX : ∀ b, X b → b < w.heap.size) {src dst : TypeId} {x : AV} {ob : Prop} {r : AV} (h : aconv C src dst x = some (ob, r)) (hob : ob) {vx : Value} (hx : Rep w X β H vx x) :
    ∃ u w', (convert src dst vx).run C.P w = .ok u w' ∧ Keeps (fun _ => False) w w' ∧ Rep w' X β H u r := by
  unfold aconv at h
  split at h
  · obtain rfl := rep_int hx
    split at h
    · rename_i k k' h1 h2
      injection h with h; injection h with e1 e2; subst e1 e2
      refine ⟨_, w, ?_, Keeps.refl _ _, .deep (.int _ _)⟩
      simp [convert, run_underlying (intT_eq h1), run_underlying (intT_eq h2), Conv.intToInt]
    · cases h
  · rename_i s
    obtain rfl := rep_str hx
    split at h
    · rename_i hs
      simp only [Bool.and_eq_true] at hs
      injection h with h; injection h with e1 e2; subst e1 e2
      refine ⟨_, w, ?_, Keeps.refl _ _, .deep (.str _)⟩
      simp [convert, run_underlying (strT_eq hs.1), run_underlying (strT_eq hs.2)]
    · split at h
      · rename_i e he
        split at h
        · rename_i hs
          simp only [Bool.and_eq_true] at hs
          injection h with h; injection h with e1 e2; subst e1 e2
          have h8 := byteT_eq hs.2
          have hr := run_bytes_of_string (P := C.P) w src dst e s (strT_eq hs.1) (elT_eq he) h8
          have hge := grownCap_ge w s.size 0 e
          have hle := grownCap_le_maxLen w s.size 0 e (by unfold maxLen; omega)
          generalize grownCap w s.size 0 e = cap at *
          refine ⟨_, _, hr, (Keeps.drew _ w).trans (Keeps.alloc (fun _ => False) w.drew _) (fun _ _ h => h), .deep ?_⟩
          have hsz : w.drew.heap.size = w.heap.size := rfl
          refine .slice 1 false _ _ _ _ (fun i _ => .int .u8 (btA s i)) (bytesRows_length s).symm (by rw [bytesRows_length]; exact hge) hle (fun h => by cases h) (fun r hr => ?_) (fun _ => ?_) (fun i j r v hi hj => ?_)
          · unfold bytesRows at hr
            obtain ⟨c, _, rfl⟩ := List.mem_map.1 hr
            rfl
          · refine ⟨w.heap.size, 0, rfl, by simp, fun hx => Nat.lt_irrefl _ (hX _ hx), fun i j hi hj => ⟨?_, rfl⟩⟩
            rw [bytesRows_length] at hi
            have hi' : i < s.data.size := hi
            have hh : (w.drew.alloc (.cells (bytesRow s cap) e ((bytesRow s cap).size, (bytesRow s cap).size + 1))).heap[w.heap.size]? = some (.cells (bytesRow s cap) e ((bytesRow s cap).size, (bytesRow s cap).size + 1)) := by
              show (w.heap.push _)[w.heap.size]? = _
              simp
            rw [show 0 + i * 1 + j = i by omega, cell_of_row _ _ _ _ _ _ hh, bytesRow_at s cap i hi']
            rw [← (bt_at hi).2]
            rfl
          · obtain ⟨hi', rfl⟩ := bytesRows_get hi
            match j with
            | 0 =>
              simp at hj
              subst hj
              have := (bt_at (s := s) (j := i) hi').2
              have e : ((s.data[i]'hi').toNat : Int) = btA s i := by rw [← this]; rfl
              rw [e]
              exact .int _ _
            | j + 1 => simp at hj
        · cases h
      · cases h
  · cases h

theorem argAVs_length (ρ : List (Nat × AV)) : ∀ (xs : List Operand) (ts : List TypeId), (argAVs C ρ xs ts).length = xs.length
  | [], _ => rfl
  | x :: r, t :: q => by simp [argAVs, argAVs_length ρ r q]
  | x :: r, [] => by simp [argAVs, argAVs_length ρ r []]

theorem argAVs_sound {a : Act} {ρ : List (Nat × AV)} (T : TRel w X β H a ρ) (G : GRel C w X) : ∀ (xs : List Operand) (ts : List TypeId) (j : Nat) (u : AV), (argAVs C ρ xs ts)[j]? = some u → ∃ x, xs[j]? = some x ∧ Rep w X β H (a.eval x) u
  | [], ts, j, u, h => by cases ts <;> simp [argAVs] at h
  | x :: r, [], j, u, h => by
    match j with
    | 0 => simp [argAVs] at h; subst h; exact ⟨x, rfl, aev_sound T G _ x⟩
    | j + 1 => simp [argAVs] at h; exact argAVs_sound T G r [] j u h
  | x :: r, t :: q, j, u, h => by
    match j with
    | 0 => simp [argAVs] at h; subst h; exact ⟨x, rfl, aev_sound T G _ x⟩
    | j + 1 => simp [argAVs] at h; exact argAVs_sound T G r q j u h

theorem opt_none {a : Act} {ρ : List (Nat × AV)} {t : TypeId} {lo : Option Operand} (h : lo.map (aev C ρ t) = none) : lo.map a.eval = none := by
  cases lo with
  | none => rfl
  | some x => cases h
theorem opt_some {a : Act} {ρ : List (Nat × AV)} (T : TRel w X β H a ρ) (G : GRel C w X) {t : TypeId} {lo : Option Operand} (u : AV) (h : lo.map (aev C ρ t) = some u) : ∃ v, lo.map a.eval = some v ∧ Rep w X β H v u := by
  cases lo with
  | none => cases h
  | some x => injection h with h; subst h; exact ⟨_, rfl, aev_sound T G _ x⟩

/-- One operation that looks at no block. -/
theorem apure_sound {a : Act} {ρ : List (Nat × AV)} (T : TRel w X β H a ρ) (G : GRel C w X) (hX : ∀ b, X b → b < w.heap.size) {o : Oper} {ob : Prop} {r : AV} (h : apure C ρ o = some (ob, r)) (hob : ob) :
    ∃ u w', (execOp a.eval o).run C.P w = .ok (.value u) w' ∧ Keeps (fun _ => False) w w' ∧ Rep w' X β H u r := by
  have E := fun t x => aev_sound (C := C) T G t x
  obtain ⟨dst, op, type, pos, after, guard⟩ := o
  unfold apure at h
  simp only at h
  split at h
  · injection h with h; injection h with e1 e2; subst e1 e2
    exact ⟨_, w, rfl, Keeps.refl _ _, E _ _⟩
  · injection h with h; injection h with e1 e2; subst e1 e2
    exact ⟨_, w, rfl, Keeps.refl _ _, E _ _⟩
  · rename_i c x y
    obtain ⟨b, hb, hr⟩ := apick_sound h (E _ c) (E _ x) (E _ y)
    refine ⟨_, w, ?_, Keeps.refl _ _, hr⟩
    simp only [execOp, hb, asBool, Sem.run_bind, Sem.run_pure, Result.andThen_ok]
  · rename_i op t x y ty
    split at h
    · rename_i hn
      have hy : y = .const (.slice none 0 0) := by unfold isNilC at hn; split at hn <;> first | rfl | cases hn
      subst hy
      obtain ⟨u, h1, h2⟩ := abinN_sound h (E _ x) x (.const (.slice none 0 0))
      refine ⟨u, w, ?_, Keeps.refl _ _, h2⟩
      simp only [execOp, Sem.run_bind] at h1 ⊢
      rw [show a.eval (.const (.slice none 0 0)) = .slice none 0 0 from rfl, h1]
      rfl
    · obtain ⟨u, h1, h2⟩ := abin_sound h hob (E _ x) (E _ y) x y
      refine ⟨u, w, ?_, Keeps.refl _ _, h2⟩
      simp only [execOp, Sem.run_bind] at h1 ⊢
      rw [h1]
      rfl
  · rename_i op t x
    obtain ⟨u, h1, h2⟩ := aun_sound (C := C) h (E _ x)
    refine ⟨u, w, ?_, Keeps.refl _ _, h2⟩
    simp only [execOp, Sem.run_bind, h1, Result.andThen_ok, Sem.run_pure]
  · rename_i src dst x
    obtain ⟨u, w', h1, h2, h3⟩ := aconv_sound hX h hob (E _ x)
    refine ⟨u, w', ?_, h2, h3⟩
    simp only [execOp, Sem.run_bind, h1, Result.andThen_ok, Sem.run_pure]
  · rename_i t x k
    obtain ⟨u, h1, h2⟩ := afield_sound h hob (E _ x)
    refine ⟨u, w, ?_, Keeps.refl _ _, h2⟩
    simp only [execOp, Sem.run_bind, h1, Result.andThen_ok, Sem.run_pure]
  · rename_i t x k
    obtain ⟨u, h1, h2⟩ := afieldAddr_sound h (E _ x)
    refine ⟨u, w, ?_, Keeps.refl _ _, h2⟩
    simp only [execOp, Sem.run_bind, h1, Result.andThen_ok, Sem.run_pure]
  · rename_i t x ix
    obtain ⟨u, h1, h2⟩ := aindexAddr_sound h hob (E _ x) (E _ ix)
    refine ⟨u, w, ?_, Keeps.refl _ _, h2⟩
    simp only [execOp, Sem.run_bind, h1, Result.andThen_ok, Sem.run_pure]
  · rename_i t x ix
    obtain ⟨u, h1, h2⟩ := aindex_sound h hob (E _ x) (E _ ix)
    refine ⟨u, w, ?_, Keeps.refl _ _, h2⟩
    simp only [execOp, Sem.run_bind, h1, Result.andThen_ok, Sem.run_pure]
  · rename_i t x lo hi mx
    obtain ⟨u, h1, h2⟩ := aslice_sound h hob (E _ x) (vlo := lo.map a.eval) (vhi := hi.map a.eval) (vmx := mx.map a.eval) opt_none (opt_some T G) opt_none (opt_some T G) opt_none (opt_some T G)
    refine ⟨u, w, ?_, Keeps.refl _ _, h2⟩
    simp only [execOp, Sem.run_bind, h1, Result.andThen_ok, Sem.run_pure]
  · rename_i x k
    split at h
    · rename_i vs hvs
      split at h
      · rename_i v hv
        injection h with h; injection h with e1 e2; subst e1 e2
        have hx := E 0 x
        rw [hvs] at hx
        obtain ⟨cs, val, h1, hl, hm, hr⟩ := rep_tup hx
        refine ⟨val k, w, ?_, Keeps.refl _ _, hr k _ hv⟩
        simp only [execOp, h1, Instr.extract, hm k (List.getElem?_eq_some_iff.1 hv).1, Sem.run_bind, Result.andThen_ok, Sem.run_pure]
      · cases h
    · cases h
  · rename_i f first cap
    split at h
    · rename_i h0
      injection h with h; injection h with e1 e2; subst e1 e2
      have hf : first = #[] := Array.eq_empty_of_size_eq_zero h0
      subst hf
      refine ⟨.func (.func f) #[] (cap.map a.eval), w, ?_, Keeps.refl _ _, ?_⟩
      · simp [execOp, Instr.makeFunc]
      · refine .fn f _ _ (fun j => (cap.map a.eval).getD j undef) (by simp) (fun j hj => ?_) (fun j v hj => ?_)
        · simp at hj
          simp [Array.getD_eq_getD_getElem?, hj]
        · rw [List.getElem?_map] at hj
          simp only [Array.getElem?_toList, Option.map_eq_some_iff] at hj
          obtain ⟨x, hx, rfl⟩ := hj
          simp only [Array.getD_eq_getD_getElem?, Array.getElem?_map, hx, Option.map_some, Option.getD_some]
          exact E 0 x
    · cases h
  · rename_i x
    have hx := E 0 x
    split at h
    · rename_i hv
      injection h with h; injection h with e1 e2; subst e1 e2
      rw [hv] at hx
      have hx' := hx
      obtain ⟨ad, b, h1, _⟩ := rep_ptr hx'
      refine ⟨_, w, ?_, Keeps.refl _ _, hx⟩
      simp only [execOp, h1, Sem.run_pure]
    · rename_i cs hv
      injection h with h; injection h with e1 e2; subst e1 e2
      rw [hv] at hx
      obtain ⟨b, o, h1⟩ := iptr_form (rep_iptr hx)
      refine ⟨_, w, ?_, Keeps.refl _ _, hx⟩
      simp only [execOp, h1, Sem.run_pure]
    · rename_i f cap hv
      injection h with h; injection h with e1 e2; subst e1 e2
      rw [hv] at hx
      have hx' := hx
      obtain ⟨cs, val, h1, _⟩ := rep_fn hx'
      refine ⟨_, w, ?_, Keeps.refl _ _, hx⟩
      simp only [execOp, h1, Sem.run_pure]
    · cases h
  · rename_i t parts
    obtain ⟨u, h1, h2⟩ := abuild_sound T G h
    refine ⟨u, w, ?_, Keeps.refl _ _, h2⟩
    simp only [execOp, Sem.run_bind, h1, Result.andThen_ok, Sem.run_pure]
  · rename_i c
    obtain ⟨callee, args, argTypes⟩ := c
    simp only at h
    split at h
    · split at h
      · rename_i x t hx ht
        obtain rfl : args = #[x] := by rw [← Array.toList_inj, hx]
        obtain rfl : argTypes = #[t] := by rw [← Array.toList_inj, ht]
        obtain ⟨u, h1, h2⟩ := alen_sound h (E t x) type
        refine ⟨u, w, ?_, Keeps.refl _ _, h2⟩
        simp only [execOp, resolve, invoke, builtin, Sem.run_bind, Sem.run_pure, Result.andThen_ok, List.map_toArray, List.map_cons, List.map_nil, h1]
      · cases h
    · split at h
      · rename_i v hv
        injection h with h; injection h with e1 e2; subst e1 e2
        obtain ⟨u, h1, h2⟩ := amax_sound (C := C) hv (vs := args.toList.map a.eval) (by simp [argAVs_length]) (fun j u v hu hv => by
          obtain ⟨x, hx, hr⟩ := argAVs_sound T G _ _ j u hu
          rw [List.getElem?_map, hx] at hv
          injection hv with hv; subst hv
          exact hr) argTypes type
        refine ⟨u, w, ?_, Keeps.refl _ _, h2⟩
        have e : args.map a.eval = (args.toList.map a.eval).toArray := by rw [← Array.toList_inj]; simp
        simp only [execOp, resolve, invoke, builtin, Sem.run_bind, Sem.run_pure, Result.andThen_ok, e, h1]
      · cases h
    · split at h
      · rename_i v hv
        injection h with h; injection h with e1 e2; subst e1 e2
        obtain ⟨u, h1, h2⟩ := amin_sound (C := C) hv (vs := args.toList.map a.eval) (by simp [argAVs_length]) (fun j u v hu hv => by
          obtain ⟨x, hx, hr⟩ := argAVs_sound T G _ _ j u hu
          rw [List.getElem?_map, hx] at hv
          injection hv with hv; subst hv
          exact hr) argTypes type
        refine ⟨u, w, ?_, Keeps.refl _ _, h2⟩
        have e : args.map a.eval = (args.toList.map a.eval).toArray := by rw [← Array.toList_inj]; simp
        simp only [execOp, resolve, invoke, builtin, Sem.run_bind, Sem.run_pure, Result.andThen_ok, e, h1]
      · cases h
    · cases h
  · cases h

end
end Go.Proofs.YtankjfiaajpfoaaDoor
