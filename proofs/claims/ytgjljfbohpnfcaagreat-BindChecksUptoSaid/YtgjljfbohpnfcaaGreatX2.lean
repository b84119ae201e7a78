/-
  Texts joined: AmB AmC.
-/
import Derived.Test.YtgjljfbohpnfcaaGreatX1
import Derived.Laws.OwnMore
import Derived.Orders

namespace Go.Proofs.YtgjljfbohpnfcaaGreat
open Go.RowKit
section
variable {C : Ctx} {w : World} {X : Nat → Prop} {β : List BI} {H : List Blk}
theorem bytesRows_get {s : ByteArray} {i : Nat} {r : List AV} (h : (bytesRows s)[i]? = some r) : ∃ hi : i < s.data.size, r = [.int .u8 ((s.data[i]'hi).toNat : Int)] := by
  unfold bytesRows at h
  rw [List.getElem?_map] at h
  simp only [Array.getElem?_toList, Option.map_eq_some_iff] at h
  obtain ⟨c, hc, rfl⟩ := h
  obtain ⟨hi, rfl⟩ := Array.getElem?_eq_some_iff.1 hc
  exact ⟨hi, rfl⟩
theorem bytesRows_length (s : ByteArray) : (bytesRows s).length = s.size := by
  unfold bytesRows
  simp
theorem aconv_sound (hX : ∀ b, X b → b < w.heap.size) {src dst : TypeId} {x : AV} {ob : Prop} {r : AV} (h : aconv C src dst x = some (ob, r)) (hob : ob) {vx : Value} (hx : Rep w X β H vx x) :
    ∃ u w', (convert src dst vx).run C.P w = .ok u w' ∧ Keeps (fun _ => False) w w' ∧ Rep w' X β H u r := by
  unfold aconv at h
  split at h
  · obtain rfl := rep_int hx
    split at h
    · rename_i k k' h1 h2
      injection h with h; injection h with e1 e2; subst e1 e2
      refine ⟨_, w, ?_, Keeps.refl _ _, .deep (.int _ _)⟩
      simp [convert, run_underlying (intT_eq h1), run_underlying (intT_eq h2), Conv.intToInt]
    · cases h
  · rename_i s
    obtain rfl := rep_str hx
    split at h
    · rename_i hs
      simp only [Bool.and_eq_true] at hs
      injection h with h; injection h with e1 e2; subst e1 e2
      refine ⟨_, w, ?_, Keeps.refl _ _, .deep (.str _)⟩
      simp [convert, run_underlying (strT_eq hs.1), run_underlying (strT_eq hs.2)]
    · split at h
      · rename_i e he
        split at h
        · rename_i hs
          simp only [Bool.and_eq_true] at hs
          injection h with h; injection h with e1 e2; subst e1 e2
          have h8 := byteT_eq hs.2
          have hr := run_bytes_of_string (P := C.P) w src dst e s (strT_eq hs.1) (elT_eq he) h8
          have hge := grownCap_ge w s.size 0 e
          have hle := grownCap_le_maxLen w s.size 0 e (by unfold maxLen; omega)
          generalize grownCap w s.size 0 e = cap at *
          refine ⟨_, _, hr, (Keeps.drew _ w).trans (Keeps.alloc (fun _ => False) w.drew _) (fun _ _ h => h), .deep ?_⟩
          have hsz : w.drew.heap.size = w.heap.size := rfl
          refine .slice 1 false _ _ _ _ (fun i _ => .int .u8 (btA s i)) (bytesRows_length s).symm (by rw [bytesRows_length]; exact hge) hle (fun h => by cases h) (fun r hr => ?_) (fun _ => ?_) (fun i j r v hi hj => ?_)
          · unfold bytesRows at hr
            obtain ⟨c, _, rfl⟩ := List.mem_map.1 hr
            rfl
          · refine ⟨w.heap.size, 0, rfl, by simp, fun hx => Nat.lt_irrefl _ (hX _ hx), fun i j hi hj => ⟨?_, rfl⟩⟩
            rw [bytesRows_length] at hi
            have hi' : i < s.data.size := hi
            have hh : (w.drew.alloc (.cells (bytesRow s cap) e ((bytesRow s cap).size, (bytesRow s cap).size + 1))).heap[w.heap.size]? = some (.cells (bytesRow s cap) e ((bytesRow s cap).size, (bytesRow s cap).size + 1)) := by
              show (w.heap.push _)[w.heap.size]? = _
              simp
            rw [show 0 + i * 1 + j = i by omega, cell_of_row _ _ _ _ _ _ hh, bytesRow_at s cap i hi']
            rw [← (bt_at hi).2]
            rfl
          · obtain ⟨hi', rfl⟩ := bytesRows_get hi
            match j with
            | 0 =>
              simp at hj
              subst hj
              have := (bt_at (s := s) (j := i) hi').2
              have e : ((s.data[i]'hi').toNat : Int) = btA s i := by rw [← this]; rfl
              rw [e]
              exact .int _ _
            | j + 1 => simp at hj
        · cases h
      · cases h
  · cases h
theorem argAVs_length (ρ : List (Nat × AV)) : ∀ (xs : List Operand) (ts : List TypeId), (argAVs C ρ xs ts).length = xs.length
  | [], _ => rfl
  | x :: r, t :: q => by simp [argAVs, argAVs_length ρ r q]
  | x :: r, [] => by simp [argAVs, argAVs_length ρ r []]
theorem argAVs_sound {a : Act} {ρ : List (Nat × AV)} (T : TRel w X β H a ρ) (G : GRel C w X) : ∀ (xs : List Operand) (ts : List TypeId) (j : Nat) (u : AV), (argAVs C ρ xs ts)[j]? = some u → ∃ x, xs[j]? = some x ∧ Rep w X β H (a.eval x) u
  | [], ts, j, u, h => by cases ts <;> simp [argAVs] at h
  | x :: r, [], j, u, h => by
    match j with
    | 0 => simp [argAVs] at h; subst h; exact ⟨x, rfl, aev_sound T G _ x⟩
    | j + 1 => simp [argAVs] at h; exact argAVs_sound T G r [] j u h
  | x :: r, t :: q, j, u, h => by
    match j with
    | 0 => simp [argAVs] at h; subst h; exact ⟨x, rfl, aev_sound T G _ x⟩
    | j + 1 => simp [argAVs] at h; exact argAVs_sound T G r q j u h
theorem opt_none {a : Act} {ρ : List (Nat × AV)} {t : TypeId} {lo : Option Operand} (h : lo.map (aev C ρ t) = none) : lo.map a.eval = none := by
  cases lo with
  | none => rfl
  | some x => cases h
theorem opt_some {a : Act} {ρ : List (Nat × AV)} (T : TRel w X β H a ρ) (G : GRel C w X) {t : TypeId} {lo : Option Operand} (u : AV) (h : lo.map (aev C ρ t) = some u) : ∃ v, lo.map a.eval = some v ∧ Rep w X β H v u := by
  cases lo with
  | none => cases h
  | some x => injection h with h; subst h; exact ⟨_, rfl, aev_sound T G _ x⟩
theorem lit_wf {n : Int} (h : I64 n) : (Lit.int .i64 n).wf = true := by
  unfold I64 at h
  simp only [Lit.wf, Bool.and_eq_true, decide_eq_true_eq]
  exact ⟨h.1, h.2⟩
theorem key_str {P : Program} {k : TypeId} (hk : P.underlying k = some .string) {s : ByteArray} (hs : s.size ≤ maxLen) : keyOf P k (.string s) = some (.string s.data.toList) :=
  Go.WideMaps.keyOf_string_mk hk hs
theorem litOf_key {P : Program} {k : TypeId} {x : AV} {ob : Prop} {kl : Lit} (h : litOf P k x = some (ob, kl)) (hob : ob) {v : Value} (hv : Rep w X β H v x) : Maps.Keyed P k ∧ keyOf P k v = some kl ∧ WideAt.IsKeyLit kl := by
  unfold litOf at h
  split at h
  · obtain rfl := rep_bool hv
    split at h
    · rename_i ht
      injection h with h; injection h with e1 e2; subst e1 e2
      exact ⟨Maps.bool_keyed (boolT_eq ht), Maps.keyOf_bool_mk (boolT_eq ht) _, trivial⟩
    · cases h
  · obtain rfl := rep_int hv
    split at h
    · rename_i ht
      injection h with h; injection h with e1 e2; subst e1 e2
      exact ⟨Maps.int_keyed (intT_eq ht), Maps.keyOf_int_mk (intT_eq ht) (lit_wf hob), trivial⟩
    · cases h
  · obtain rfl := rep_str hv
    split at h
    · rename_i ht
      injection h with h; injection h with e1 e2; subst e1 e2
      exact ⟨Maps.string_keyed (strT_eq ht), key_str (strT_eq ht) hob, trivial⟩
    · cases h
  · cases h
theorem litOf_elem {P : Program} {e : TypeId} {x : AV} {ob : Prop} {l : Lit} (h : litOf P e x = some (ob, l)) (hob : ob) {v : Value} (hv : Rep w X β H v x) : plainElem (H := Unit) P e v = some (.lit l, []) := by
  unfold litOf at h
  split at h
  · obtain rfl := rep_bool hv
    split at h
    · rename_i ht
      injection h with h; injection h with e1 e2; subst e1 e2
      exact plainElem_bool (boolT_eq ht) _
    · cases h
  · obtain rfl := rep_int hv
    split at h
    · rename_i ht
      injection h with h; injection h with e1 e2; subst e1 e2
      exact plainElem_int (intT_eq ht) (lit_wf hob)
    · cases h
  · obtain rfl := rep_str hv
    split at h
    · rename_i ht
      injection h with h; injection h with e1 e2; subst e1 e2
      exact plainElem_string (strT_eq ht) hob
    · cases h
  · cases h
theorem plainElem_lit {P : Program} {e : TypeId} {v : Value} {l : Lit} {ps : List MemPlace} (h : plainElem (H := Unit) P e v = some (.lit l, ps)) : Rep w X β H v (litAV l) := by
  unfold plainElem at h
  split at h
  · injection h with h; injection h with h _; injection h with h; subst h; exact .deep (.bool _)
  · split at h
    · rename_i hq
      injection h with h; injection h with h _; injection h with h; subst h
      rw [hq.1]
      exact .deep (.int _ _)
    · cases h
  · split at h
    · injection h with h; injection h with h _; injection h with h; subst h
      exact .deep (.str _)
    · cases h
  · cases h
theorem zeroL_run {P : Program} {e : TypeId} {z : Lit} (h : zeroL P e = some z) : ∃ zv, (zeroValue e).run P w = .ok zv w ∧ plainElem (H := Unit) P e zv = some (.lit z, []) := by
  unfold zeroL at h
  cases hi : P.info? e with
  | none => rw [hi] at h; cases h
  | some i =>
    rw [hi] at h
    simp only [Option.bind_some] at h
    split at h
    · rename_i hz
      split at h
      · rename_i ht
        injection h with h; subst h
        exact ⟨_, by simp [zeroValue, typeInfo, hi, hz], plainElem_bool (boolT_eq ht) _⟩
      · cases h
    · rename_i k n hz
      split at h
      · rename_i ht
        obtain ⟨rfl, ht⟩ := ht
        injection h with h; subst h
        exact ⟨_, by simp [zeroValue, typeInfo, hi, hz], plainElem_int (intT_eq ht) (by cases k <;> decide)⟩
      · cases h
    · rename_i s hz
      split at h
      · rename_i ht
        obtain ⟨hs, ht⟩ := ht
        injection h with h; subst h
        refine ⟨.string s, by simp [zeroValue, typeInfo, hi, hz], ?_⟩
        rw [plainElem_string (strT_eq ht) (hs ▸ Nat.zero_le _)]
        have : s.data.toList = [] := List.length_eq_zero_iff.1 (by rw [Array.length_toList]; exact hs)
        rw [this]
      · cases h
    · cases h
theorem alook_sound (G : GRel C w X) {t : TypeId} {m x : AV} {ok : Bool} {ob : Prop} {r : AV} (h : alook C t m x ok = some (ob, r)) (hob : ob) {vm vx : Value} (hm : Rep w X β H vm m) (hx : Rep w X β H vx x) :
    ∃ u, (Instr.lookup t vm vx ok).run C.P w = .ok u w ∧ Rep w X β H u r := by
  unfold alook at h
  split at h
  · rename_i b
    obtain rfl := rep_mapp hm
    split at h
    · rename_i k e L hg
      split at h
      · rename_i ht
        split at h
        · rename_i ob' kl z hl hz
          injection h with h; injection h with e1 e2; subst e1 e2
          have hG := G b
          rw [hg] at hG
          obtain ⟨⟨D, o1, o2, o3, o4, o5⟩, _⟩ := hG
          obtain ⟨K, hk, _⟩ := litOf_key hl hob hx
          obtain ⟨zv, hz1, hz2⟩ := zeroL_run (w := w) hz
          cases ok with
          | false =>
            obtain ⟨v, ps, h1, h2⟩ := o1.lookup K (mapT_eq ht) hz1 hz2 hk
            rw [o3] at h2
            exact ⟨v, h1, plainElem_lit h2⟩
          | true =>
            obtain ⟨v, ps, h1, h2⟩ := o1.look_ok K (mapT_eq ht) hz1 hz2 hk
            rw [o3] at h2
            refine ⟨_, h1, .tup _ _ (fun j => if j = 0 then v else .bool (Maps.has D kl)) rfl (fun j hj => ?_) (fun j u hu => ?_)⟩
            · rcases j with _ | _ | j
              · rfl
              · rfl
              · simp at hj; omega
            · rcases j with _ | _ | j
              · simp at hu; subst hu; exact plainElem_lit h2
              · simp at hu; subst hu; rw [← o4]; exact .deep (.bool _)
              · simp at hu
        · cases h
      · cases h
    · cases h
  · cases h
theorem apure_sound {a : Act} {ρ : List (Nat × AV)} (T : TRel w X β H a ρ) (G : GRel C w X) (hX : ∀ b, X b → b < w.heap.size) {o : Oper} {ob : Prop} {r : AV} (h : apure C ρ o = some (ob, r)) (hob : ob) :
    ∃ u w', (execOp a.eval o).run C.P w = .ok (.value u) w' ∧ Keeps (fun _ => False) w w' ∧ Rep w' X β H u r := by
  have E := fun t x => aev_sound (C := C) T G t x
  obtain ⟨dst, op, type, pos, after, guard⟩ := o
  unfold apure at h
  simp only at h
  split at h
  · injection h with h; injection h with e1 e2; subst e1 e2
    exact ⟨_, w, rfl, Keeps.refl _ _, E _ _⟩
  · injection h with h; injection h with e1 e2; subst e1 e2
    exact ⟨_, w, rfl, Keeps.refl _ _, E _ _⟩
  · rename_i c x y
    obtain ⟨b, hb, hr⟩ := apick_sound h (E _ c) (E _ x) (E _ y)
    refine ⟨_, w, ?_, Keeps.refl _ _, hr⟩
    simp only [execOp, hb, asBool, Sem.run_bind, Sem.run_pure, Result.andThen_ok]
  · rename_i op t x y ty
    split at h
    · rename_i hn
      have hy : y = .const (.slice none 0 0) := by unfold isNilC at hn; split at hn <;> first | rfl | cases hn
      subst hy
      obtain ⟨u, h1, h2⟩ := abinN_sound h (E _ x) x (.const (.slice none 0 0))
      refine ⟨u, w, ?_, Keeps.refl _ _, h2⟩
      simp only [execOp, Sem.run_bind] at h1 ⊢
      rw [show a.eval (.const (.slice none 0 0)) = .slice none 0 0 from rfl, h1]
      rfl
    · obtain ⟨u, h1, h2⟩ := abin_sound h hob (E _ x) (E _ y) x y
      refine ⟨u, w, ?_, Keeps.refl _ _, h2⟩
      simp only [execOp, Sem.run_bind] at h1 ⊢
      rw [h1]
      rfl
  · rename_i op t x
    obtain ⟨u, h1, h2⟩ := aun_sound (C := C) h (E _ x)
    refine ⟨u, w, ?_, Keeps.refl _ _, h2⟩
    simp only [execOp, Sem.run_bind, h1, Result.andThen_ok, Sem.run_pure]
  · rename_i src dst x
    obtain ⟨u, w', h1, h2, h3⟩ := aconv_sound hX h hob (E _ x)
    refine ⟨u, w', ?_, h2, h3⟩
    simp only [execOp, Sem.run_bind, h1, Result.andThen_ok, Sem.run_pure]
  · rename_i t x k
    obtain ⟨u, h1, h2⟩ := afield_sound h hob (E _ x)
    refine ⟨u, w, ?_, Keeps.refl _ _, h2⟩
    simp only [execOp, Sem.run_bind, h1, Result.andThen_ok, Sem.run_pure]
  · rename_i t x k
    obtain ⟨u, h1, h2⟩ := afieldAddr_sound h (E _ x)
    refine ⟨u, w, ?_, Keeps.refl _ _, h2⟩
    simp only [execOp, Sem.run_bind, h1, Result.andThen_ok, Sem.run_pure]
  · rename_i t x ix
    obtain ⟨u, h1, h2⟩ := aindexAddr_sound h hob (E _ x) (E _ ix)
    refine ⟨u, w, ?_, Keeps.refl _ _, h2⟩
    simp only [execOp, Sem.run_bind, h1, Result.andThen_ok, Sem.run_pure]
  · rename_i t x ix
    obtain ⟨u, h1, h2⟩ := aindex_sound h hob (E _ x) (E _ ix)
    refine ⟨u, w, ?_, Keeps.refl _ _, h2⟩
    simp only [execOp, Sem.run_bind, h1, Result.andThen_ok, Sem.run_pure]
  · rename_i t x lo hi mx
    obtain ⟨u, h1, h2⟩ := aslice_sound h hob (E _ x) (vlo := lo.map a.eval) (vhi := hi.map a.eval) (vmx := mx.map a.eval) opt_none (opt_some T G) opt_none (opt_some T G) opt_none (opt_some T G)
    refine ⟨u, w, ?_, Keeps.refl _ _, h2⟩
    simp only [execOp, Sem.run_bind, h1, Result.andThen_ok, Sem.run_pure]
  · rename_i x k
    split at h
    · rename_i vs hvs
      split at h
      · rename_i v hv
        injection h with h; injection h with e1 e2; subst e1 e2
        have hx := E 0 x
        rw [hvs] at hx
        obtain ⟨cs, val, h1, hl, hm, hr⟩ := rep_tup hx
        refine ⟨val k, w, ?_, Keeps.refl _ _, hr k _ hv⟩
        simp only [execOp, h1, Instr.extract, hm k (List.getElem?_eq_some_iff.1 hv).1, Sem.run_bind, Result.andThen_ok, Sem.run_pure]
      · cases h
    · cases h
  · rename_i f first cap
    split at h
    · rename_i h0
      injection h with h; injection h with e1 e2; subst e1 e2
      have hf : first = #[] := Array.eq_empty_of_size_eq_zero h0
      subst hf
      refine ⟨.func (.func f) #[] (cap.map a.eval), w, ?_, Keeps.refl _ _, ?_⟩
      · simp [execOp, Instr.makeFunc]
      · refine .fn f _ _ (fun j => (cap.map a.eval).getD j undef) (by simp) (fun j hj => ?_) (fun j v hj => ?_)
        · simp at hj
          simp [Array.getD_eq_getD_getElem?, hj]
        · rw [List.getElem?_map] at hj
          simp only [Array.getElem?_toList, Option.map_eq_some_iff] at hj
          obtain ⟨x, hx, rfl⟩ := hj
          simp only [Array.getD_eq_getD_getElem?, Array.getElem?_map, hx, Option.map_some, Option.getD_some]
          exact E 0 x
    · cases h
  · rename_i x
    have hx := E 0 x
    split at h
    · rename_i hv
      injection h with h; injection h with e1 e2; subst e1 e2
      rw [hv] at hx
      have hx' := hx
      obtain ⟨ad, b, h1, _⟩ := rep_ptr hx'
      refine ⟨_, w, ?_, Keeps.refl _ _, hx⟩
      simp only [execOp, h1, Sem.run_pure]
    · rename_i cs hv
      injection h with h; injection h with e1 e2; subst e1 e2
      rw [hv] at hx
      obtain ⟨b, o, h1⟩ := iptr_form (rep_iptr hx)
      refine ⟨_, w, ?_, Keeps.refl _ _, hx⟩
      simp only [execOp, h1, Sem.run_pure]
    · rename_i f cap hv
      injection h with h; injection h with e1 e2; subst e1 e2
      rw [hv] at hx
      have hx' := hx
      obtain ⟨cs, val, h1, _⟩ := rep_fn hx'
      refine ⟨_, w, ?_, Keeps.refl _ _, hx⟩
      simp only [execOp, h1, Sem.run_pure]
    · cases h
  · rename_i t parts
    obtain ⟨u, h1, h2⟩ := abuild_sound T G h
    refine ⟨u, w, ?_, Keeps.refl _ _, h2⟩
    simp only [execOp, Sem.run_bind, h1, Result.andThen_ok, Sem.run_pure]
  · rename_i t m x ok
    obtain ⟨u, h1, h2⟩ := alook_sound G h hob (E t m) (E 0 x)
    refine ⟨u, w, ?_, Keeps.refl _ _, h2⟩
    simp only [execOp, Sem.run_bind, h1, Result.andThen_ok, Sem.run_pure]
  · rename_i c
    obtain ⟨callee, args, argTypes⟩ := c
    simp only at h
    split at h
    · split at h
      · rename_i x t hx ht
        obtain rfl : args = #[x] := by rw [← Array.toList_inj, hx]
        obtain rfl : argTypes = #[t] := by rw [← Array.toList_inj, ht]
        obtain ⟨u, h1, h2⟩ := alen_sound G h (E t x) type
        refine ⟨u, w, ?_, Keeps.refl _ _, h2⟩
        simp only [execOp, resolve, invoke, builtin, Sem.run_bind, Sem.run_pure, Result.andThen_ok, List.map_toArray, List.map_cons, List.map_nil, h1]
      · cases h
    · split at h
      · rename_i v hv
        injection h with h; injection h with e1 e2; subst e1 e2
        obtain ⟨u, h1, h2⟩ := amax_sound (C := C) hv (vs := args.toList.map a.eval) (by simp [argAVs_length]) (fun j u v hu hv => by
          obtain ⟨x, hx, hr⟩ := argAVs_sound T G _ _ j u hu
          rw [List.getElem?_map, hx] at hv
          injection hv with hv; subst hv
          exact hr) argTypes type
        refine ⟨u, w, ?_, Keeps.refl _ _, h2⟩
        have e : args.map a.eval = (args.toList.map a.eval).toArray := by rw [← Array.toList_inj]; simp
        simp only [execOp, resolve, invoke, builtin, Sem.run_bind, Sem.run_pure, Result.andThen_ok, e, h1]
      · cases h
    · split at h
      · rename_i v hv
        injection h with h; injection h with e1 e2; subst e1 e2
        obtain ⟨u, h1, h2⟩ := amin_sound (C := C) hv (vs := args.toList.map a.eval) (by simp [argAVs_length]) (fun j u v hu hv => by
          obtain ⟨x, hx, hr⟩ := argAVs_sound T G _ _ j u hu
          rw [List.getElem?_map, hx] at hv
          injection hv with hv; subst hv
          exact hr) argTypes type
        refine ⟨u, w, ?_, Keeps.refl _ _, h2⟩
        have e : args.map a.eval = (args.toList.map a.eval).toArray := by rw [← Array.toList_inj]; simp
        simp only [execOp, resolve, invoke, builtin, Sem.run_bind, Sem.run_pure, Result.andThen_ok, e, h1]
      · cases h
    · cases h
  · cases h
end
end Go.Proofs.YtgjljfbohpnfcaaGreat
namespace Go.Proofs.YtgjljfbohpnfcaaGreat
open Go.RowKit
def XL (X : Nat → Prop) (β : List BI) (H : List Blk) (L : Nat → Prop) (b : Nat) : Prop := X b ∨ ∃ (l c : Nat) (blk : Blk), β[l]? = some (BI.lies b c) ∧ H[l]? = some blk ∧ blk.mu = true ∧ ¬ L l
section
variable {C : Ctx} {w : World} {X : Nat → Prop} {β : List BI} {H : List Blk}
theorem XL_mu {L : Nat → Prop} {b : Nat} (h : XL X β H L b) : Mu X β H b := by
  rcases h with h | ⟨l, c, blk, h1, h2, h3, _⟩
  · exact .inl h
  · exact .inr ⟨l, c, blk, h1, h2, h3⟩
theorem XL_not (R : HRel w X β H) {L : Nat → Prop} {l b c : Nat} (hb : β[l]? = some (BI.lies b c)) (hl : L l) : ¬ XL X β H L b := by
  rintro (h | ⟨l', c', blk, h1, _, _, h4⟩)
  · exact (R.lt l b c hb).2 h
  · obtain rfl := R.inj l' l b c' c h1 hb
    exact h4 hl
theorem rep_deep {v : Value} {av : AV} (hd : av.isDeep = true) (h : Rep w X β H v av) : RepD w X v av := by
  cases h with
  | deep h => exact h
  | own => cases hd
  | osl => cases hd
  | ptr => cases hd
  | agg => cases hd
  | tup => cases hd
  | fn => cases hd
theorem HRel.mu_lt (R : HRel w X β H) (b : Nat) (h : Mu X β H b) : b < w.heap.size := by
  rcases h with h | ⟨l, c, blk, h1, _, _⟩
  · exact R.base b h
  · exact (R.lt l b c h1).1
theorem blk_cells {bk cap : Nat} {b : Blk} (h : BlkRep w (Mu X β H) β H (.lies bk cap) b) {i : Nat} (hi : i < b.rows.length) (f : Nat) {av : AV} {j : Nat} (hj : (b.rows[i].drop f)[j]? = some av) :
    ∃ v, w.cell? ⟨bk, i * b.sz + f + j, none⟩ = some v ∧ v.oneCell' = true ∧ Rep w (Mu X β H) β H v av ∧ (b.deep = true → RepD w (Mu X β H) v av) := by
  obtain ⟨cur, h1, h2, h3, h4, h5, h6, h7⟩ := h
  rw [List.getElem?_drop] at hj
  obtain ⟨v, k1, k2, k3, k4⟩ := h7 i (f + j) _ av (List.getElem?_eq_getElem hi) hj
  refine ⟨v, ?_, k2, k3, k4⟩
  rw [cell_of_row w bk _ cur b.e (0, 0) h1, Nat.add_assoc]
  exact k1
theorem view_sound (R : HRel w X β H) (L : Nat → Prop) : ∀ (d : Nat) {v : Value} {av : AV}, Rep w (Mu X β H) β H v av → (∀ l ∈ reach H d av, L l) → RepD w (XL X β H L) v (view H d av)
  | 0, v, av, h, _ => by
    unfold view
    split
    · rename_i hd
      exact (rep_deep hd h).mono fun b _ hb => XL_mu hb
    · exact .undef _
  | d + 1, v, av, h, hL => by
    have ih := fun {v : Value} {av : AV} (h : Rep w (Mu X β H) β H v av) (hL : ∀ l ∈ reach H d av, L l) => view_sound R L d h hL
    unfold view
    cases av with
    | own l n =>
      simp only
      obtain ⟨a, cap, b, rfl, hb, hn, h0, hx⟩ := rep_own h
      have hl : L l := hL l (by simp [reach])
      rw [hb]
      simp only
      split
      · rename_i hlen
        have hx := hx hlen
        cases hβ : β[l]? with
        | none => rw [hβ] at hx; exact hx.elim
        | some bi =>
          rw [hβ] at hx
          have hB := R.blk l bi b hβ hb
          cases bi with
          | nil =>
            obtain ⟨rfl, rfl⟩ := hx
            have hrows : b.rows = [] := hB.1
            rw [hrows]
            simp only [List.map_nil, ite_self]
            exact .slice _ false [] _ _ _ (fun _ _ => undef) rfl (Nat.le_refl _) (Nat.zero_le _) (fun h => by cases h) (fun r h => by cases h) (fun h => absurd rfl h) (fun i j r v h => by simp at h)
          | lies bk c =>
            obtain ⟨rfl, rfl⟩ := hx
            have hB' := hB
            obtain ⟨cur, h1, h2, h3, h4, h5, h6, h7⟩ := hB
            have hrl : (if b.deep = true then b.rows else b.rows.map fun r => r.map (view H d)).length = n := by split <;> simp [hlen]
            refine .slice b.sz false _ _ _ _ (fun i j => cur.getD (i * b.sz + j) undef) hrl.symm (by rw [hrl]; omega) h4 (fun h => by cases h) (fun r hr => ?_) (fun _ => ⟨bk, 0, rfl, (R.lt l bk cap hβ).1, XL_not R hβ hl, fun i j hi hj => ?_⟩) (fun i j r u hi hj => ?_)
            · split at hr
              · exact h6 r hr
              · obtain ⟨r', hr', rfl⟩ := List.mem_map.1 hr
                rw [List.length_map]
                exact h6 r' hr'
            · rw [hrl] at hi
              have hi' : i < b.rows.length := by omega
              have hrow : (b.rows[i]).length = b.sz := h6 _ (List.getElem_mem hi')
              obtain ⟨v, k1, k2, _⟩ := h7 i j _ _ (List.getElem?_eq_getElem hi') (List.getElem?_eq_getElem (show j < b.rows[i].length by omega))
              rw [show 0 + i * b.sz + j = i * b.sz + j by omega, cell_of_row w bk _ cur b.e (0, 0) h1, k1]
              have : cur.getD (i * b.sz + j) undef = v := by simp [Array.getD_eq_getD_getElem?, k1]
              rw [this]
              exact ⟨rfl, k2⟩
            · split at hi
              · rename_i hd
                obtain ⟨v, k1, k2, k3, k4⟩ := h7 i j r u hi hj
                have : cur.getD (i * b.sz + j) undef = v := by simp [Array.getD_eq_getD_getElem?, k1]
                rw [this]
                exact (k4 hd).mono fun b _ hb => XL_mu hb
              · rename_i hd
                rw [List.getElem?_map] at hi
                simp only [Option.map_eq_some_iff] at hi
                obtain ⟨r', hr', rfl⟩ := hi
                rw [List.getElem?_map] at hj
                simp only [Option.map_eq_some_iff] at hj
                obtain ⟨av', hav, rfl⟩ := hj
                obtain ⟨v, k1, k2, k3, k4⟩ := h7 i j r' av' hr' hav
                have : cur.getD (i * b.sz + j) undef = v := by simp [Array.getD_eq_getD_getElem?, k1]
                rw [this]
                refine ih k3 fun l' hl' => hL l' ?_
                simp only [reach, hb, hd]
                exact List.mem_cons_of_mem _ (List.mem_flatMap.2 ⟨r', List.mem_of_getElem? hr', List.mem_flatMap.2 ⟨av', List.mem_of_getElem? hav, hl'⟩⟩)
      · exact .undef _
    | osl l n sz off len =>
      simp only
      obtain ⟨a, cap, b, rfl, hb, hn, hle, h0, hc, hx⟩ := rep_osl h
      have hl : L l := hL l (by simp [reach])
      rw [hb]
      simp only
      split
      · rename_i hlen
        have hx := hx hlen.1 hlen.2
        have hrl0 : ((b.rows.drop off).take len).length = len := by simp; omega
        have hsub : ∀ (i : Nat) (r : List AV), ((b.rows.drop off).take len)[i]? = some r → i < len ∧ b.rows[off + i]? = some r := fun i r h => by
          rw [List.getElem?_take] at h
          split at h
          · rw [List.getElem?_drop] at h; exact ⟨by assumption, h⟩
          · cases h
        have hrl : (if b.deep = true then (b.rows.drop off).take len else ((b.rows.drop off).take len).map fun r => r.map (view H d)).length = len := by split <;> simp [hrl0] <;> omega
        cases hβ : β[l]? with
        | none => rw [hβ] at hx; exact hx.elim
        | some bi =>
          rw [hβ] at hx
          have hB := R.blk l bi b hβ hb
          cases bi with
          | nil =>
            obtain ⟨rfl, rfl, rfl⟩ := hx
            have hnil : (if b.deep = true then (b.rows.drop 0).take 0 else ((b.rows.drop 0).take 0).map fun r => r.map (view H d)) = [] := List.length_eq_zero_iff.1 hrl
            rw [hnil]
            exact .slice _ false [] _ _ _ (fun _ _ => undef) rfl (Nat.le_refl _) (Nat.zero_le _) (fun h => by cases h) (fun r h => by cases h) (fun h => absurd rfl h) (fun i j r v h => by simp at h)
          | lies bk c =>
            obtain ⟨hoc, rfl, hadr⟩ := hx
            obtain ⟨cur, h1, h2, h3, h4, h5, h6, h7⟩ := hB
            refine .slice b.sz false _ _ _ _ (fun i j => cur.getD ((off + i) * b.sz + j) undef) hrl.symm (by rw [hrl]; omega) (by omega) (fun h => by cases h) (fun r hr => ?_) (fun hne => ?_) (fun i j r u hi hj => ?_)
            · split at hr
              · exact h6 r (List.mem_of_mem_drop (List.mem_of_mem_take hr))
              · obtain ⟨r', hr', rfl⟩ := List.mem_map.1 hr
                rw [List.length_map]
                exact h6 r' (List.mem_of_mem_drop (List.mem_of_mem_take hr'))
            · rw [hrl] at hne
              refine ⟨bk, off * b.sz, by rw [hadr (by omega), hlen.2], (R.lt l bk c hβ).1, XL_not R hβ hl, fun i j hi hj => ?_⟩
              rw [hrl] at hi
              have hi' : off + i < b.rows.length := by omega
              have hrow : (b.rows[off + i]).length = b.sz := h6 _ (List.getElem_mem hi')
              obtain ⟨v, k1, k2, _⟩ := h7 (off + i) j _ _ (List.getElem?_eq_getElem hi') (List.getElem?_eq_getElem (show j < b.rows[off + i].length by omega))
              rw [show off * b.sz + i * b.sz + j = (off + i) * b.sz + j by rw [Nat.add_mul], cell_of_row w bk _ cur b.e (0, 0) h1, k1]
              have : cur.getD ((off + i) * b.sz + j) undef = v := by simp [Array.getD_eq_getD_getElem?, k1]
              rw [this]
              exact ⟨rfl, k2⟩
            · split at hi
              · rename_i hd
                obtain ⟨_, hi⟩ := hsub i r hi
                obtain ⟨v, k1, k2, k3, k4⟩ := h7 (off + i) j r u hi hj
                have : cur.getD ((off + i) * b.sz + j) undef = v := by simp [Array.getD_eq_getD_getElem?, k1]
                rw [this]
                exact (k4 hd).mono fun b _ hb => XL_mu hb
              · rename_i hd
                rw [List.getElem?_map] at hi
                simp only [Option.map_eq_some_iff] at hi
                obtain ⟨r', hr', rfl⟩ := hi
                obtain ⟨_, hr'⟩ := hsub i r' hr'
                rw [List.getElem?_map] at hj
                simp only [Option.map_eq_some_iff] at hj
                obtain ⟨av', hav, rfl⟩ := hj
                obtain ⟨v, k1, k2, k3, k4⟩ := h7 (off + i) j r' av' hr' hav
                have : cur.getD ((off + i) * b.sz + j) undef = v := by simp [Array.getD_eq_getD_getElem?, k1]
                rw [this]
                refine ih k3 fun l' hl' => hL l' ?_
                simp only [reach, hb, hd]
                exact List.mem_cons_of_mem _ (List.mem_flatMap.2 ⟨r', List.mem_of_getElem? hr', List.mem_flatMap.2 ⟨av', List.mem_of_getElem? hav, hl'⟩⟩)
      · exact .undef _
    | ptr l n sz i f =>
      simp only
      obtain ⟨ad, b, rfl, hb, hn, hx⟩ := rep_ptr h
      have hl : L l := hL l (by simp [reach])
      rw [hb]
      simp only
      split
      · rename_i hc
        obtain ⟨bk, cap, hβ, rfl⟩ := hx hc.1 hc.2.1 hc.2.2
        have hB := R.blk l _ b hβ hb
        have hi' : i < b.rows.length := by omega
        rw [rowAt_get hi', ← hc.2.1]
        refine .iptr bk _ _ (fun j => (w.cell? ⟨bk, i * b.sz + f + j, none⟩).getD undef) (R.lt l bk cap hβ).1 (XL_not R hβ hl) (fun j hj => ?_) (fun j u hj => ?_)
        · have hj' : j < (b.rows[i].drop f).length := by split at hj <;> simpa using hj
          obtain ⟨v, k1, k2, _⟩ := blk_cells hB hi' f (List.getElem?_eq_getElem hj')
          rw [k1]
          exact ⟨rfl, k2⟩
        · split at hj
          · rename_i hd
            obtain ⟨v, k1, k2, k3, k4⟩ := blk_cells hB hi' f hj
            rw [k1]
            exact (k4 hd).mono fun b _ hb => XL_mu hb
          · rename_i hd
            rw [List.getElem?_map] at hj
            simp only [Option.map_eq_some_iff] at hj
            obtain ⟨av', hav, rfl⟩ := hj
            obtain ⟨v, k1, k2, k3, k4⟩ := blk_cells hB hi' f hav
            rw [k1]
            refine ih k3 fun l' hl' => hL l' ?_
            simp only [reach, hb, hd]
            rw [List.getElem?_drop] at hav
            exact List.mem_cons_of_mem _ (List.mem_flatMap.2 ⟨_, List.getElem_mem hi', List.mem_flatMap.2 ⟨av', List.mem_of_getElem? hav, hl'⟩⟩)
      · exact .undef _
    | agg cells =>
      simp only
      obtain ⟨cs, val, rfl, hl, hm, hv⟩ := rep_agg h
      refine .agg cs _ val (by simp [hl]) (fun j hj => hm j (by simpa using hj)) (fun j u hj => ?_)
      rw [List.getElem?_map] at hj
      simp only [Option.map_eq_some_iff] at hj
      obtain ⟨av', hav, rfl⟩ := hj
      exact ih (hv j av' hav) fun l hl => hL l (by simp only [reach]; exact List.mem_flatMap.2 ⟨av', List.mem_of_getElem? hav, hl⟩)
    | tup cells =>
      simp only
      obtain ⟨cs, val, rfl, hl, hm, hv⟩ := rep_tup h
      refine .tup cs _ val (by simp [hl]) (fun j hj => hm j (by simpa using hj)) (fun j u hj => ?_)
      rw [List.getElem?_map] at hj
      simp only [Option.map_eq_some_iff] at hj
      obtain ⟨av', hav, rfl⟩ := hj
      exact ih (hv j av' hav) fun l hl => hL l (by simp only [reach]; exact List.mem_flatMap.2 ⟨av', List.mem_of_getElem? hav, hl⟩)
    | fn f cells =>
      simp only
      obtain ⟨cs, val, rfl, hl, hm, hv⟩ := rep_fn h
      refine .fn f cs _ val (by simp [hl]) (fun j hj => hm j (by simpa using hj)) (fun j u hj => ?_)
      rw [List.getElem?_map] at hj
      simp only [Option.map_eq_some_iff] at hj
      obtain ⟨av', hav, rfl⟩ := hj
      exact ih (hv j av' hav) fun l hl => hL l (by simp only [reach]; exact List.mem_flatMap.2 ⟨av', List.mem_of_getElem? hav, hl⟩)
    | _ => exact (rep_deep rfl h).mono fun b _ hb => XL_mu hb
def MRep (w : World) (X : Nat → Prop) (β : List BI) (H : List Blk) (b off : Nat) (cells : List AV) : Prop :=
  ∀ (j : Nat) (av : AV), cells[j]? = some av → ∃ v, w.cell? ⟨b, off + j, none⟩ = some v ∧ v.oneCell' = true ∧ Rep w X β H v av
theorem headV_load {t : TypeId} {cells : List AV} {ob : Prop} {r : AV} (h : headV C t cells = some (ob, r)) (hob : ob) {b off : Nat} (hm : MRep w X β H b off cells) :
    ∃ u, (loadVar t ⟨b, off, none⟩).run C.P w = .ok u w ∧ Rep w X β H u r := by
  unfold headV at h
  split at h
  · rename_i ht
    split at h
    · cases h
    · rename_i hz
      injection h with h; injection h with h1 h2; subst h1 h2
      have key : ∀ j (hj : j < cells.length), ∃ v, w.cell? ⟨b, off + j, none⟩ = some v ∧ v.oneCell' = true ∧ Rep w X β H v cells[j] := fun j hj => hm j _ (List.getElem?_eq_getElem hj)
      let f : Nat → Value := fun j => (w.cell? ⟨b, off + j, none⟩).getD undef
      have hr := run_loadCells (P := C.P) w ⟨b, off, none⟩ (szT C.P t) f (fun j hj => by
        obtain ⟨v, h1, _⟩ := key j (by omega)
        rw [add_eq, show f j = v by simp [f, h1], h1])
      refine ⟨_, ?_, .agg ((List.range (szT C.P t)).map f).toArray _ f ?_ (fun j hj => ?_) (fun j u hu => ?_)⟩
      · simp [loadVar, run_isAgg ht, run_sizeOf (Nat.pos_of_ne_zero hz), hr]
      · simp; omega
      · simp only [List.length_take] at hj
        obtain ⟨v, h1, h2, _⟩ := key j (by omega)
        have hj' : j < szT C.P t := by omega
        refine ⟨by simp [hj'], ?_⟩
        rw [show f j = v by simp [f, h1]]
        exact h2
      · rw [List.getElem?_take] at hu
        split at hu
        · obtain ⟨v, h1, _, h3⟩ := hm j u hu
          rw [show f j = v by simp [f, h1]]
          exact h3
        · cases hu
  · rename_i ht
    injection h with h; injection h with h1 h2; subst h1 h2
    obtain ⟨v, h1, _, h3⟩ := hm 0 _ (List.getElem?_eq_getElem hob)
    refine ⟨v, ?_, ?_⟩
    · rw [Nat.add_zero] at h1
      simp [loadVar, run_isAgg ht, run_load, h1]
    · rw [List.getD_eq_getElem?_getD, List.getElem?_eq_getElem hob]
      exact h3
  · cases h
theorem aload_sound (R : HRel w X β H) {t : TypeId} {p : AV} {ob : Prop} {r : AV} (h : aload C H t p = some (ob, r)) (hob : ob) {vp : Value} (hp : Rep w (Mu X β H) β H vp p) :
    ∃ u, (Instr.loadAt t vp).run C.P w = .ok u w ∧ Rep w (Mu X β H) β H u r := by
  unfold aload at h
  split at h
  · rename_i cs
    have hd := rep_iptr hp
    obtain ⟨b, o, rfl⟩ := iptr_form hd
    cases hd with
    | iptr _ _ _ val hb hX hm hv =>
      obtain ⟨u, h1, h2⟩ := headV_load (w := w) (X := Mu X β H) (β := β) (H := H) h hob (b := b) (off := o) (fun j av hj => ⟨val j, (hm j (List.getElem?_eq_some_iff.1 hj).1).1, (hm j (List.getElem?_eq_some_iff.1 hj).1).2, .deep (hv j av hj)⟩)
      exact ⟨u, by simp [Instr.loadAt, Instr.sureAddr, h1], h2⟩
  · rename_i l n sz i f
    split at h
    · rename_i b hb
      split at h
      · rename_i ob' v hh
        injection h with h; injection h with e1 e2; subst e1 e2
        obtain ⟨⟨o1, o2, o3⟩, o4⟩ := hob
        obtain ⟨ad, b', rfl, hb', hn, hx⟩ := rep_ptr hp
        rw [hb] at hb'
        injection hb' with hb'
        subst hb'
        obtain ⟨bk, cap, hβ, rfl⟩ := hx o1 o2 o3
        have hi : i < b.rows.length := by omega
        rw [rowAt_get hi] at hh
        obtain ⟨u, h1, h2⟩ := headV_load hh o4 (b := bk) (off := i * sz + f) (fun j av hj => by
          obtain ⟨v, k1, k2, k3, _⟩ := blk_cells (R.blk l _ b hβ hb) hi f hj
          rw [← o2]
          exact ⟨v, k1, k2, k3⟩)
        exact ⟨u, by simp [Instr.loadAt, Instr.sureAddr, h1], h2⟩
      · cases h
    · cases h
  · cases h
end
end Go.Proofs.YtgjljfbohpnfcaaGreat
namespace Go.Proofs.YtgjljfbohpnfcaaGreat
open Go.RowKit
theorem rep_nil {w : World} {X : Nat → Prop} {β : List BI} {v : Value} {av : AV} (h : Rep w X β [] v av) : RepD w X v av := by
  induction h with
  | deep h => exact h
  | own l n a cap b hb => simp at hb
  | osl l n sz off len a cap b hb => simp at hb
  | ptr l n sz i f a b hb => simp at hb
  | agg cs cells val hl hm hv ih => exact .agg cs cells val hl hm ih
  | tup cs cells val hl hm hv ih => exact .tup cs cells val hl hm ih
  | fn f cs cells val hl hm hv ih => exact .fn f cs cells val hl hm ih
theorem repD_nrmC {w : World} {X : Nat → Prop} {v : Value} {av : AV} (h : RepD w X v av) : RepD w X v (nrmC av) := by
  unfold nrmC
  split
  · cases h with
    | slice _ _ _ a n cap val hn h1 h2 h3 hr hm hv => exact .slice _ false _ a n cap val hn h1 h2 (fun h => by cases h) hr hm hv
  · exact h
section
variable {C : Ctx} {w : World} {X Y : Nat → Prop} {β : List BI} {H : List Blk}
theorem aparts_length {e : TypeId} : ∀ {i : Nat} {parts : List (Nat × AV)} {rows : List (List AV)}, aparts C e i parts = some rows → rows.length = parts.length
  | _, [], rows, h => by simp only [aparts, Option.some.injEq] at h; subst h; rfl
  | i, (k, v) :: r, rows, h => by
    unfold aparts at h
    split at h
    · split at h
      · rename_i cs rest h1 h2
        injection h with h; subst h
        simp [aparts_length h2]
      · cases h
    · cases h
theorem fill_dense {e : TypeId} (sz : Nat) (hsz : sz = szT C.P e) : ∀ (parts : List (Nat × AV)) (vparts : List (Nat × Value)) (i : Nat) (rows : List (List AV)) (cs : Array Value), aparts C e i parts = some rows →
    vparts.length = parts.length → (∀ (j k : Nat) (u : AV), parts[j]? = some (k, u) → ∃ v, vparts[j]? = some (k, v) ∧ RepD w Y v u) → cs.size = (i + parts.length) * sz →
    ∃ cs', Instr.fill (fun k => some (k * sz, sz)) cs vparts = some cs' ∧ cs'.size = cs.size ∧ (∀ k, k < i * sz → cs'[k]? = cs[k]?) ∧ (∀ r ∈ rows, r.length = sz) ∧
      ∀ (m j : Nat) (r : List AV) (av : AV), rows[m]? = some r → r[j]? = some av → ∃ v, cs'[(i + m) * sz + j]? = some v ∧ v.oneCell' = true ∧ RepD w Y v av
  | [], vparts, i, rows, cs, h, hl, hv, hs => by
    simp only [aparts, Option.some.injEq] at h
    subst h
    obtain rfl := List.length_eq_zero_iff.1 hl
    exact ⟨cs, rfl, rfl, fun _ _ => rfl, fun r hr => (by cases hr), fun m j r av hm => (by simp at hm)⟩
  | (k, u) :: parts, vparts, i, rows, cs, h, hl, hv, hs => by
    obtain ⟨v, h1, h2⟩ := hv 0 k u rfl
    match vparts, hl, hv, h1 with
    | x :: vp, hl, hv, h1 =>
      simp at h1
      subst h1
      unfold aparts at h
      split at h
      · rename_i hki
        subst hki
        split at h
        · rename_i cu rest hcu hrest
          injection h with h
          subst h
          obtain ⟨k1, k2⟩ := cellsOf_sound (w := w) (X := Y) (β := []) (H := []) hcu (.deep h2)
          have hvs : v.cells.size = sz := by rw [k1.1, k2, hsz]
          have hcl : cu.length = sz := by rw [k2, hsz]
          simp only [List.length_cons] at hs
          have hmul : (k + (parts.length + 1)) * sz = k * sz + sz + parts.length * sz := by rw [Nat.add_mul, Nat.add_mul]; omega
          have eq1 : v.cells.zipIdx.foldl (fun (cs : Array Value) (x : Value × Nat) => cs.setIfInBounds (k * sz + x.2) x.1) cs = (v.cells.toList.zipIdx 0).foldl (fun cs x => cs.setIfInBounds (k * sz + x.2) x.1) cs := by
            rw [← Array.foldl_toList]
            simp
          obtain ⟨f1, f2⟩ := foldl_set (k * sz) v.cells.toList 0 cs
          obtain ⟨cs', g1, g2, g3, g4, g5⟩ := fill_dense sz hsz parts vp (k + 1) rest _ hrest (by simpa using hl) (fun j k u hj => by have := hv (j + 1) k u (by simpa using hj); simpa using this)
            (show ((v.cells.toList.zipIdx 0).foldl (fun cs x => cs.setIfInBounds (k * sz + x.2) x.1) cs).size = (k + 1 + parts.length) * sz by rw [f1, hs]; congr 1; omega)
          refine ⟨cs', ?_, by rw [g2, f1], fun m hm => ?_, fun r hr => ?_, fun m j r av hm hj => ?_⟩
          · unfold Instr.fill
            simp only [hvs, ne_eq, not_true_eq_false, Bool.false_or, decide_false]
            rw [if_neg (by simp; omega), eq1, g1]
          · have hlt : m < (k + 1) * sz := by rw [Nat.add_mul]; omega
            rw [g3 m hlt, f2 m, if_neg (by omega)]
          · rcases List.mem_cons.1 hr with rfl | hr
            · simp [hcl]
            · exact g4 r hr
          · match m with
            | 0 =>
              simp at hm
              subst hm
              rw [List.getElem?_map] at hj
              simp only [Option.map_eq_some_iff] at hj
              obtain ⟨av', hav, rfl⟩ := hj
              have hjl := (List.getElem?_eq_some_iff.1 hav).1
              obtain ⟨v', q1, q2, q3⟩ := k1.2 j av' hav
              refine ⟨v', ?_, q2, repD_nrmC (rep_nil q3)⟩
              rw [Nat.add_zero, g3 _ (by rw [Nat.add_mul]; omega), f2, if_pos ⟨by omega, by simp; omega, by omega⟩]
              simpa using q1
            | m + 1 =>
              have := g5 m j r av (by simpa using hm) hj
              rwa [show k + 1 + m = k + (m + 1) by omega] at this
        · cases h
      · cases h
theorem abuildSlice_sound {t : TypeId} {len : Nat} {parts : List (Nat × AV)} {ob : Prop} {r : AV} (h : abuildSlice C t len parts = some (ob, r)) {vparts : Array (Nat × Value)} (hl : vparts.size = parts.length)
    (hv : ∀ (j k : Nat) (u : AV), parts[j]? = some (k, u) → ∃ v, vparts[j]? = some (k, v) ∧ RepD w Y v u) (hY : ∀ b, Y b → b < w.heap.size) :
    ∃ u w', (Instr.buildSlice t len vparts).run C.P w = .ok u w' ∧ Keeps (fun _ => False) w w' ∧ RepD w' Y u r := by
  unfold abuildSlice at h
  split at h
  · rename_i e he
    split at h
    · cases h
    · rename_i hc
      have hc1 : ¬ szT C.P e = 0 := fun h => hc (.inl h)
      have hc2 : ¬ (zT C.P e).isNone = true := fun h => hc (.inr (.inl h))
      have hc3 : parts.length = len := Classical.byContradiction fun h => hc (.inr (.inr (.inl h)))
      have hc4 : len * szT C.P e ≤ 1000000 := Nat.le_of_not_lt fun h => hc (.inr (.inr (.inr h)))
      split at h
      · rename_i rows hrows
        injection h with h; injection h with e1 e2; subst e1 e2
        obtain ⟨z, hz⟩ : ∃ z, zT C.P e = some z := by cases hz : zT C.P e <;> simp_all
        obtain ⟨i, zv, z1, z2, z3, z4, z5, z6, z7⟩ := zT_sound hz
        have hzr : (zeroValue e).run C.P w = .ok zv w := by simp [zeroValue, typeInfo, z1, z2]
        have hrl := aparts_length hrows
        have hsize := run_sizeOf (P := C.P) (Nat.pos_of_ne_zero hc1) w
        have mk : ∀ (cs : Array Value), cs.size = len * szT C.P e → ∃ cs', Instr.fill (fun k => some (k * szT C.P e, szT C.P e)) cs vparts.toList = some cs' ∧ cs'.size = cs.size ∧ (∀ r ∈ rows, r.length = szT C.P e) ∧
            ∀ (m j : Nat) (r : List AV) (av : AV), rows[m]? = some r → r[j]? = some av → ∃ v, cs'[m * szT C.P e + j]? = some v ∧ v.oneCell' = true ∧ RepD w Y v av := by
          intro cs hcs
          obtain ⟨cs', g1, g2, _, g4, g5⟩ := fill_dense (w := w) (Y := Y) (szT C.P e) rfl parts vparts.toList 0 rows cs hrows (by simpa using hl) (fun j k u hj => by simpa using hv j k u hj) (by rw [hcs, Nat.zero_add, hc3])
          exact ⟨cs', g1, g2, g4, fun m j r av hm hj => by simpa using g5 m j r av hm hj⟩
        have fin : ∀ cs', cs'.size = len * szT C.P e → (∀ r ∈ rows, r.length = szT C.P e) → (∀ (m j : Nat) (r : List AV) (av : AV), rows[m]? = some r → r[j]? = some av → ∃ v, cs'[m * szT C.P e + j]? = some v ∧ v.oneCell' = true ∧ RepD w Y v av) →
            RepD (w.alloc (.cells cs' e)) Y (.slice (some ⟨w.heap.size, 0, none⟩) len len) (.slice (szT C.P e) true rows) := by
          intro cs' hs hr hcell
          have hK := Keeps.alloc (fun _ => False) w (.cells cs' e)
          refine .slice _ true rows _ _ _ (fun m j => cs'.getD (m * szT C.P e + j) undef) (by omega) (by omega) (by unfold maxLen; have : len ≤ len * szT C.P e := Nat.le_mul_of_pos_right _ (Nat.pos_of_ne_zero hc1); omega) (fun _ => by omega) hr (fun _ => ⟨w.heap.size, 0, rfl, by simp, fun h => Nat.lt_irrefl _ (hY _ h), fun m j hm hj => ?_⟩) (fun m j r av hm hj => ?_)
          · have hrow : rows[m].length = szT C.P e := hr _ (List.getElem_mem hm)
            obtain ⟨v, q1, q2, q3⟩ := hcell m j _ _ (List.getElem?_eq_getElem hm) (List.getElem?_eq_getElem (show j < rows[m].length by omega))
            rw [cell_of_row _ _ _ _ _ _ (heap_alloc_new w _), show 0 + m * szT C.P e + j = m * szT C.P e + j by omega, q1]
            have : cs'.getD (m * szT C.P e + j) undef = v := by simp [Array.getD_eq_getD_getElem?, q1]
            rw [this]
            exact ⟨rfl, q2⟩
          · obtain ⟨v, q1, q2, q3⟩ := hcell m j r av hm hj
            have : cs'.getD (m * szT C.P e + j) undef = v := by simp [Array.getD_eq_getD_getElem?, q1]
            rw [this]
            exact q3.keep (fun b hb _ => hK.block b hb id) hK.size (fun b _ h => h)
        by_cases h0 : len * szT C.P e = 0
        · have hlen : len = 0 := (Nat.mul_eq_zero.1 h0).resolve_right hc1
          obtain ⟨cs', g1, g2, g4, g5⟩ := mk #[] (by rw [h0]; rfl)
          refine ⟨.slice (some ⟨w.heap.size, 0, none⟩) len len, w.alloc (.cells cs' e), ?_, Keeps.alloc _ _ _, fin cs' (by rw [g2, h0]; rfl) g4 g5⟩
          subst hlen
          have hvl : vparts.toList.length = 0 := by rw [Array.length_toList, hl, hc3]
          obtain rfl : vparts = #[] := by rw [← Array.toList_inj]; exact List.length_eq_zero_iff.1 hvl
          simp only [Instr.fill, Option.some.injEq] at g1
          subst g1
          simp [Instr.buildSlice, run_underlying (elT_eq he), hsize, Instr.fill, newRow]
          rw [Array.eq_empty_of_size_eq_zero (xs := Array.map (fun _ => default) (Array.range 0)) (by simp)]
        · obtain ⟨cs', g1, g2, g4, g5⟩ := mk ((Array.range (len * szT C.P e)).map fun x => zv.cells[x % zv.cells.size]!) (by simp)
          refine ⟨.slice (some ⟨w.heap.size, 0, none⟩) len len, w.alloc (.cells cs' e), ?_, Keeps.alloc _ _ _, fin cs' (by rw [g2]; simp) g4 g5⟩
          have hno : ¬ len * szT C.P e > 2 ^ 24 := by omega
          simp only [Instr.buildSlice, Sem.run_bind, run_underlying (elT_eq he), Result.andThen_ok, hsize, hno, if_false, h0, hzr, Sem.run_pure, g1, newRow, run_newObj]
          rfl
      · cases h
  · cases h
theorem unB_bytesRows_get {rows : List (List AV)} (h : rows = bytesRows (unB rows)) {i : Nat} (hi : i < rows.length) : ∃ hi' : i < (unB rows).data.size, rows[i]? = some [.int .u8 (((unB rows).data[i]'hi').toNat : Int)] := by
  have h1 : (bytesRows (unB rows))[i]? = some (rows[i]) := by rw [← h]; exact List.getElem?_eq_getElem hi
  obtain ⟨hi', h2⟩ := bytesRows_get h1
  exact ⟨hi', by rw [List.getElem?_eq_getElem hi, h2]⟩
theorem abytesStr_sound (R : HRel w X β H) {src dst : TypeId} {x : AV} {ob : Prop} {r : AV} (h : abytesStr C H src dst x = some (ob, r)) (hob : ob) {vx : Value} (hx : Rep w (Mu X β H) β H vx x) :
    ∃ u, (convert src dst vx).run C.P w = .ok u w ∧ Rep w (Mu X β H) β H u r := by
  unfold abytesStr at h
  split at h
  · rename_i e he
    split at h
    · rename_i hc
      simp only [Bool.and_eq_true, beq_iff_eq] at hc
      split at h
      · rename_i full rows hv
        injection h with h; injection h with e1 e2; subst e1 e2
        have hd := view_sound R (fun _ => True) 6 hx (fun _ _ => trivial)
        rw [hv] at hd
        obtain ⟨a, cap, val, rfl, h1, h2, h3, hr, hm, hvv⟩ := repD_slice hd
        refine ⟨.string (unB rows), ?_, .deep (.str _)⟩
        have hsz : rows.length = (unB rows).data.toList.length := by
          have := congrArg List.length hob
          rw [bytesRows_length] at this
          simpa using this
        by_cases h0 : rows.length = 0
        · have hrows : rows = [] := List.length_eq_zero_iff.1 h0
          subst hrows
          have he0 : unB [] = ByteArray.empty := rfl
          rw [he0]
          cases a with
          | none => simp [convert, run_underlying (elT_eq he), run_underlying (strT_eq hc.1.1), run_underlying (byteT_eq hc.1.2), Conv.bytesToString]
          | some ad =>
            have := run_convert_bytes_back (P := C.P) w src dst e ad cap [] (elT_eq he) (byteT_eq hc.1.2) (strT_eq hc.1.1) (fun j hj => by simp at hj)
            exact this
        · obtain ⟨b, off, rfl, hb, hX, hcell⟩ := hm h0
          have := run_convert_bytes_back (P := C.P) w src dst e ⟨b, off, none⟩ cap (unB rows).data.toList (elT_eq he) (byteT_eq hc.1.2) (strT_eq hc.1.1) (fun j hj => by
            obtain ⟨hj', h5⟩ := unB_bytesRows_get hob (i := j) (by omega)
            have h6 := hcell j 0 (by omega) (by omega)
            rw [add_eq, show off + j = off + j * 1 + 0 by omega, h6.1]
            have h7 := hvv j 0 _ _ h5 rfl
            congr 1
            have h8 := rep_int (β := []) (H := []) (Rep.deep h7)
            rw [h8]
            simp)
          rw [← hsz] at this
          simpa using this
      · cases h
    · cases h
  · cases h
end
def PureOK (P : Program) (G : Nat → AV) (f : FuncId) (p : List AV → Option (Prop × AV)) : Prop :=
  ∀ (w : World) (X : Nat → Prop) (args : Array Value) (avs : List AV) (ob : Prop) (r : AV), (∀ b, X b → b < w.heap.size) → (∀ g, GV P w X g (G g)) → args.size = avs.length →
    (∀ (j : Nat) (u : AV), avs[j]? = some u → ∃ v, args[j]? = some v ∧ RepD w X v u) → p avs = some (ob, r) → ob →
    Calls P f args w fun e w' => ∃ v, e = .returned v ∧ Keeps (fun _ => False) w w' ∧ RepD w' X v r
def GenOK (P : Program) (G : Nat → AV) (f : FuncId) (g : List AV → List Blk → Option (Prop × AV × List Blk)) : Prop :=
  ∀ (w : World) (X : Nat → Prop) (β : List BI) (H : List Blk) (args : Array Value) (avs : List AV) (ob : Prop) (r : AV) (H' : List Blk), HRel w X β H → (∀ k, GV P w (Mu X β H) k (G k)) → args.size = avs.length →
    (∀ (j : Nat) (u : AV), avs[j]? = some u → ∃ v, args[j]? = some v ∧ Rep w (Mu X β H) β H v u) → g avs H = some (ob, r, H') → ob →
    Calls P f args w fun e w' => ∃ v β', e = .returned v ∧ HRel w' X β' H' ∧ StepR w β H w' β' H' ∧ Rep w' (Mu X β' H') β' H' v r
def ExtOK (P : Program) (f : FuncId) (p : List AV → Option (Prop × AV)) : Prop :=
  ∀ (w : World) (X : Nat → Prop) (args : Array Value) (avs : List AV) (ob : Prop) (r : AV), args.size = avs.length →
    (∀ (j : Nat) (u : AV), avs[j]? = some u → ∃ v, args[j]? = some v ∧ RepD w X v u) → p avs = some (ob, r) → ob →
    ∃ v, (callFunc f args).run P w = .ok (.value v) w ∧ RepD w X v r
def EntryOK (P : Program) (G : Nat → AV) (f : FuncId) : Entry → Prop
  | .no => True
  | .pure p => (PureOK P G f p ∧ ∃ fn, P.funcs[f]? = some fn ∧ fn.name ≠ "runtime.NumGoroutine" ∧ fn.body.isSome = true) ∨ ExtOK P f p
  | .frz p => PureOK P G f p ∧ ∃ fn, P.funcs[f]? = some fn ∧ fn.name ≠ "runtime.NumGoroutine" ∧ fn.body.isSome = true
  | .gen g => GenOK P G f g ∧ ∃ fn, P.funcs[f]? = some fn ∧ fn.name ≠ "runtime.NumGoroutine" ∧ fn.body.isSome = true
def SigOK (C : Ctx) : Prop := ∀ f, EntryOK C.P C.G f (C.S f)
end Go.Proofs.YtgjljfbohpnfcaaGreat
namespace Go.Proofs.YtgjljfbohpnfcaaGreat
open Go.RowKit
section
variable {C : Ctx} {w w' : World} {X : Nat → Prop} {β : List BI} {H : List Blk}
theorem getElem?_snoc_old {α : Type} {l : List α} {x : α} {i : Nat} (h : i < l.length) : (l ++ [x])[i]? = l[i]? := List.getElem?_append_left h
theorem getElem?_snoc_new {α : Type} (l : List α) (x : α) : (l ++ [x])[l.length]? = some x := by simp
theorem snoc_cases {α : Type} {l : List α} {x y : α} {i : Nat} (h : (l ++ [x])[i]? = some y) : (i < l.length ∧ l[i]? = some y) ∨ (i = l.length ∧ y = x) := by
  rcases Nat.lt_or_ge i l.length with h1 | h1
  · rw [getElem?_snoc_old h1] at h
    exact .inl ⟨h1, h⟩
  · have h2 := (List.getElem?_eq_some_iff.1 h).1
    simp at h2
    have h3 : i = l.length := by omega
    subst h3
    rw [getElem?_snoc_new] at h
    injection h with h
    exact .inr ⟨rfl, h.symm⟩
theorem push_step (R : HRel w X β H) (hk : Keeps (fun _ => False) w w') (bi : BI) (b : Blk) (h6 : ∀ bk c, bi = .lies bk c → w.heap.size ≤ bk) : StepR w β H w' (β ++ [bi]) (H ++ [b]) := by
  refine ⟨hk.weaken fun _ _ h => h.elim, ⟨fun l b0 h => ?_, fun l bk c h => ?_⟩, R.len⟩
  · have hl := (List.getElem?_eq_some_iff.1 h).1
    refine ⟨b0, by rw [getElem?_snoc_old hl]; exact h, rfl, rfl, Nat.le_refl _, fun _ => ?_, id⟩
    rw [getElem?_snoc_old (by rw [R.len]; exact hl)]
  · rcases snoc_cases h with ⟨_, h1⟩ | ⟨_, h1⟩
    · exact .inr ⟨c, h1⟩
    · exact .inl (h6 bk c h1.symm)
theorem push_hrel (R : HRel w X β H) (hk : Keeps (fun _ => False) w w') (bi : BI) (b : Blk) (h6 : ∀ bk c, bi = .lies bk c → w.heap.size ≤ bk) (h7 : ∀ bk c, bi = .lies bk c → bk < w'.heap.size)
    (hB : BlkRep w' (Mu X (β ++ [bi]) (H ++ [b])) (β ++ [bi]) (H ++ [b]) bi b) : HRel w' X (β ++ [bi]) (H ++ [b]) := by
  have S := push_step R hk bi b h6
  have hs := hk.size
  refine ⟨by simp [R.len], fun l bi' b' h1 h2 => ?_, fun l b' c h => ?_, fun l l' b' c c' h h' => ?_, fun b hb => Nat.lt_of_lt_of_le (R.base b hb) hs⟩
  · rcases snoc_cases h1 with ⟨k1, k2⟩ | ⟨k1, k2⟩ <;> rcases snoc_cases h2 with ⟨k3, k4⟩ | ⟨k3, k4⟩
    · exact (R.blk l bi' b' k2 k4).keep S fun bk c e => by subst e; exact hk.block bk (R.lt l bk c k2).1 id
    · have := R.len; omega
    · have := R.len; omega
    · subst k2 k4; exact hB
  · rcases snoc_cases h with ⟨_, h1⟩ | ⟨_, h1⟩
    · exact ⟨Nat.lt_of_lt_of_le (R.lt l b' c h1).1 hs, (R.lt l b' c h1).2⟩
    · exact ⟨h7 b' c h1.symm, fun hx => by have := R.base b' hx; have := h6 b' c h1.symm; omega⟩
  · rcases snoc_cases h with ⟨_, h1⟩ | ⟨e1, h1⟩ <;> rcases snoc_cases h' with ⟨_, h2⟩ | ⟨e2, h2⟩
    · exact R.inj l l' b' c c' h1 h2
    · have := (R.lt l b' c h1).1; have := h6 b' c' h2.symm; omega
    · have := (R.lt l' b' c' h2).1; have := h6 b' c h1.symm; omega
    · omega
theorem set_step (R : HRel w X β H) {l : Nat} {b : Blk} {bi : BI} (hb : H[l]? = some b) (hbi : β[l]? = some bi) (bi' : BI) (b' : Blk) (h1 : b'.sz = b.sz) (h2 : b'.e = b.e) (h3 : b.rows.length ≤ b'.rows.length) (h4 : b'.rows.length = b.rows.length → bi' = bi)
    (h5 : b'.mu = true → b.mu = true) (h6 : ∀ bk c, bi' = .lies bk c → w.heap.size ≤ bk ∨ ∃ c', bi = .lies bk c') (hk : Keeps (MutB β H) w w') : StepR w β H w' (β.set l bi') (H.set l b') := by
  refine ⟨hk, ⟨fun k b0 h => ?_, fun k bk c h => ?_⟩, R.len⟩
  · by_cases e : l = k
    · subst e
      rw [hb] at h
      injection h with h
      subst h
      refine ⟨b', by rw [List.getElem?_set_self (List.getElem?_eq_some_iff.1 hb).1], h1, h2, h3, fun e => ?_, h5⟩
      rw [List.getElem?_set_self (List.getElem?_eq_some_iff.1 hbi).1, hbi, h4 e]
    · refine ⟨b0, by rw [List.getElem?_set_ne e]; exact h, rfl, rfl, Nat.le_refl _, fun _ => ?_, id⟩
      rw [List.getElem?_set_ne e]
  · by_cases e : l = k
    · subst e
      rw [List.getElem?_set_self (List.getElem?_eq_some_iff.1 hbi).1] at h
      injection h with h
      rcases h6 bk c h with h | ⟨c', h⟩
      · exact .inl h
      · exact .inr ⟨c', by rw [hbi, h]⟩
    · rw [List.getElem?_set_ne e] at h
      exact .inr ⟨c, h⟩
theorem set_hrel (R : HRel w X β H) {l : Nat} {b : Blk} {bi : BI} (hb : H[l]? = some b) (hbi : β[l]? = some bi) (bi' : BI) (b' : Blk) (S : StepR w β H w' (β.set l bi') (H.set l b'))
    (hoth : ∀ (l' bk c : Nat), l' ≠ l → β[l']? = some (BI.lies bk c) → w'.heap[bk]? = w.heap[bk]?) (hB : BlkRep w' (Mu X (β.set l bi') (H.set l b')) (β.set l bi') (H.set l b') bi' b')
    (hlt : ∀ bk c, bi' = .lies bk c → bk < w'.heap.size ∧ ¬ X bk) (hinj : ∀ (bk c l' c' : Nat), bi' = .lies bk c → l' ≠ l → β[l']? ≠ some (BI.lies bk c')) : HRel w' X (β.set l bi') (H.set l b') := by
  have hs := S.keeps.size
  refine ⟨by simp [R.len], fun k bi0 b0 h1 h2 => ?_, fun k b0 c h => ?_, fun k k' b0 c c' h h' => ?_, fun b hb => Nat.lt_of_lt_of_le (R.base b hb) hs⟩
  · by_cases e : l = k
    · subst e
      rw [List.getElem?_set_self (List.getElem?_eq_some_iff.1 hbi).1] at h1
      rw [List.getElem?_set_self (List.getElem?_eq_some_iff.1 hb).1] at h2
      injection h1 with h1; injection h2 with h2
      subst h1 h2
      exact hB
    · rw [List.getElem?_set_ne e] at h1 h2
      exact (R.blk k bi0 b0 h1 h2).keep S fun bk c e' => by subst e'; exact hoth k bk c (fun h => e h.symm) h1
  · by_cases e : l = k
    · subst e
      rw [List.getElem?_set_self (List.getElem?_eq_some_iff.1 hbi).1] at h
      injection h with h
      exact hlt b0 c h
    · rw [List.getElem?_set_ne e] at h
      exact ⟨Nat.lt_of_lt_of_le (R.lt k b0 c h).1 hs, (R.lt k b0 c h).2⟩
  · by_cases e : l = k <;> by_cases e' : l = k'
    · omega
    · subst e
      rw [List.getElem?_set_self (List.getElem?_eq_some_iff.1 hbi).1] at h
      injection h with h
      rw [List.getElem?_set_ne e'] at h'
      exact absurd h' (hinj b0 c k' c' h (fun h => e' h.symm))
    · subst e'
      rw [List.getElem?_set_self (List.getElem?_eq_some_iff.1 hbi).1] at h'
      injection h' with h'
      rw [List.getElem?_set_ne e] at h
      exact absurd h (hinj b0 c' k c h' (fun h => e h.symm))
    · rw [List.getElem?_set_ne e] at h
      rw [List.getElem?_set_ne e'] at h'
      exact R.inj k k' b0 c c' h h'
theorem frzL_get (ls : List Nat) : ∀ (H : List Blk) (i k : Nat), (frzL ls i H)[k]? = (H[k]?).map fun b => if ls.contains (i + k) then { b with mu := false } else b
  | [], i, k => by simp [frzL]
  | b :: r, i, k => by
    match k with
    | 0 => simp [frzL]
    | k + 1 =>
      simp only [frzL, List.getElem?_cons_succ, frzL_get ls r (i + 1) k]
      rw [show i + 1 + k = i + (k + 1) by omega]
theorem frz_step (R : HRel w X β H) (ls : List Nat) : StepR w β H w β (frzL ls 0 H) := by
  refine ⟨Keeps.refl _ _, ⟨fun l b h => ?_, fun l bk c h => .inr ⟨c, h⟩⟩, R.len⟩
  refine ⟨_, by rw [frzL_get, h]; rfl, ?_, ?_, ?_, fun _ => rfl, ?_⟩ <;> split <;> simp
theorem frzL_length (ls : List Nat) : ∀ (H : List Blk) (i : Nat), (frzL ls i H).length = H.length
  | [], _ => rfl
  | b :: r, i => by simp [frzL, frzL_length ls r (i + 1)]
theorem frz_hrel (R : HRel w X β H) (ls : List Nat) : HRel w X β (frzL ls 0 H) := by
  have S := frz_step R ls
  refine ⟨by rw [R.len, frzL_length], fun l bi b h1 h2 => ?_, R.lt, R.inj, R.base⟩
  rw [frzL_get] at h2
  simp only [Option.map_eq_some_iff] at h2
  obtain ⟨b0, h3, h4⟩ := h2
  have hB := (R.blk l bi b0 h1 h3).keep S fun _ _ _ => rfl
  subst h4
  split
  · cases bi with
    | nil => exact hB
    | lies bk c => exact hB
  · exact hB
theorem XL_frz {ls : List Nat} {b : Nat} (h : Mu X β (frzL ls 0 H) b) : XL X β H (fun l => l ∈ ls) b := by
  rcases h with h | ⟨l, c, blk, h1, h2, h3⟩
  · exact .inl h
  · rw [frzL_get] at h2
    simp only [Option.map_eq_some_iff] at h2
    obtain ⟨b0, h4, h5⟩ := h2
    subst h5
    split at h3
    · cases h3
    · rename_i hc
      exact .inr ⟨l, c, b0, h1, h4, h3, by simpa using hc⟩
theorem anew_sound (R : HRel w X β H) {t : TypeId} {cs : List AV} {ob : Prop} {r : AV} {H' : List Blk} (h : anew C H t (some cs) = some (ob, r, H')) {cur : Array Value} (hc : CRep w (Mu X β H) β H cur cs) :
    ∃ β', HRel (w.alloc (.cells cur t)) X β' H' ∧ StepR w β H (w.alloc (.cells cur t)) β' H' ∧ Rep (w.alloc (.cells cur t)) (Mu X β' H') β' H' (.pointer (some ⟨w.heap.size, 0, none⟩)) r := by
  unfold anew at h
  simp only at h
  split at h
  · rename_i hs
    injection h with h; injection h with e1 e2; injection e2 with e2 e3; subst e1 e2 e3
    have hk := Keeps.alloc (fun _ => False) w (.cells cur t)
    have S := push_step R hk (.lies w.heap.size 1) ⟨t, szT C.P t, [cs], true, cs.all AV.isDeep⟩ (fun bk c e => by injection e with e _; omega)
    refine ⟨β ++ [.lies w.heap.size 1], push_hrel R hk _ _ (fun bk c e => by injection e with e _; omega) (fun bk c e => by injection e with e _; subst e; simp) ?_, S, ?_⟩
    · refine ⟨cur, heap_alloc_new w _, by rw [hc.1, hs.1]; simp, Nat.le_refl _, by unfold maxLen; omega, by rw [hs.1]; exact hs.2, fun r hr => ?_, fun i j r av hi hj => ?_⟩
      · simp at hr; subst hr; exact hs.1.symm
      · match i with
        | 0 =>
          simp at hi
          subst hi
          obtain ⟨v, k1, k2, k3⟩ := hc.2 j av hj
          refine ⟨v, by simpa using k1, k2, k3.keep S, fun hd => ?_⟩
          have hd' : av.isDeep = true := List.all_eq_true.1 hd av (List.mem_of_getElem? hj)
          exact rep_deep hd' (k3.keep S)
        | i + 1 => simp at hi
    · refine .ptr H.length 1 _ 0 0 _ ⟨t, szT C.P t, [cs], true, cs.all AV.isDeep⟩ (by simp) (Nat.le_refl _) fun _ _ _ => ⟨w.heap.size, 1, ?_, by simp⟩
      rw [← R.len]
      simp
  · cases h
theorem madeCells_get (z : Array Value) (n k : Nat) (hk : k < n) (hz : 0 < z.size) : (madeCells z n)[k]? = z[k % z.size]? := by
  unfold madeCells
  have : k % z.size < z.size := Nat.mod_lt _ hz
  simp [hk, this]
theorem amake_sound (R : HRel w X β H) {t : TypeId} {l c : AV} {ob : Prop} {r : AV} {H' : List Blk} (h : amake C H t l c = some (ob, r, H')) (hob : ob) {vl vc : Value} (hl : Rep w (Mu X β H) β H vl l) (hc : Rep w (Mu X β H) β H vc c) :
    ∃ u w' β', (Instr.makeSlice t vl vc).run C.P w = .ok u w' ∧ HRel w' X β' H' ∧ StepR w β H w' β' H' ∧ Rep w' (Mu X β' H') β' H' u r := by
  unfold amake at h
  split at h
  · rename_i e kl l kc c he
    obtain rfl := rep_int hl
    obtain rfl := rep_int hc
    split at h
    · rename_i z hz
      injection h with h; injection h with e1 e2; injection e2 with e2 e3; subst e1 e2 e3
      obtain ⟨o1, o2, o3, o4⟩ := hob
      obtain ⟨i, zv, z1, z2, z3, z4, z5, z6, z7⟩ := zT_sound hz
      have hby : byT C.P e = i.bytes := by simp [byT, z1]
      rw [hby] at o3
      have hrun := run_make (P := C.P) w t e i zv (elT_eq he) z1 z2 kl kc l c o1 o2 (by
        have : ((c.toNat * i.bytes : Nat) : Int) ≤ 140737488355328 := by omega
        rw [Int.natCast_mul, Int.toNat_of_nonneg (by omega)] at this
        rw [Int.mul_comm]
        omega) (by omega)
      rw [z3] at hrun
      have hk := Keeps.alloc (fun _ => False) w (.cells (madeCells zv.cells (c.toNat * z.length)) e)
      have hz0 : 0 < z.length := by omega
      have S := push_step R hk (.lies w.heap.size c.toNat) ⟨e, szT C.P e, List.replicate l.toNat z, true, z.all AV.isDeep⟩ (fun bk c e => by injection e with e _; omega)
      refine ⟨_, _, β ++ [.lies w.heap.size c.toNat], hrun, push_hrel R hk _ _ (fun bk c e => by injection e with e _; omega) (fun bk c e => by injection e with e _; subst e; simp) ?_, S, ?_⟩
      · refine ⟨_, heap_alloc_new w _, by rw [size_madeCells, z5], by simp; omega, by unfold maxLen; omega, by rw [z5]; exact hz0, fun r hr => ?_, fun i j r av hi hj => ?_⟩
        · rw [List.eq_of_mem_replicate hr, z5]
        · have hi' := (List.getElem?_eq_some_iff.1 hi).1
          simp at hi'
          have hr : r = z := List.eq_of_mem_replicate (List.mem_of_getElem? hi)
          subst hr
          have hj' := (List.getElem?_eq_some_iff.1 hj).1
          obtain ⟨v, k1, k2, k3⟩ := z7 (w.alloc (.cells (madeCells zv.cells (c.toNat * r.length)) e)) (Mu X (β ++ [.lies w.heap.size c.toNat]) (H ++ [⟨e, szT C.P e, List.replicate l.toNat r, true, r.all AV.isDeep⟩])) j av hj
          refine ⟨v, ?_, k2, .deep k3, fun _ => k3⟩
          simp only [z5]
          have hm : (i * r.length + j) % r.length = j := by rw [Nat.add_comm, Nat.add_mul_mod_self_right, Nat.mod_eq_of_lt hj']
          rw [madeCells_get _ _ _ ?_ (by rw [z6]; exact hz0), z6, hm]
          · exact k1
          · have h1 : i + 1 ≤ c.toNat := by omega
            have h2 := Nat.mul_le_mul_right r.length h1
            rw [Nat.add_mul] at h2
            omega
      · refine .own H.length l.toNat _ _ ⟨e, szT C.P e, List.replicate l.toNat z, true, z.all AV.isDeep⟩ (by simp) (by simp) (.inr ⟨_, rfl⟩) (by omega) fun _ => ?_
        rw [← R.len]
        simp [OwnAt]
    · cases h
  · cases h
end
end Go.Proofs.YtgjljfbohpnfcaaGreat
namespace Go.Proofs.YtgjljfbohpnfcaaGreat
open Go.RowKit
section
variable {C : Ctx} {w w' : World} {X : Nat → Prop} {β : List BI} {H : List Blk}
theorem mid_get (cur : Array Value) (vs : List Value) (o k : Nat) (h : o + vs.length ≤ cur.size) : ((cur.toList.take o ++ vs ++ cur.toList.drop (o + vs.length)).toArray)[k]? = if o ≤ k ∧ k < o + vs.length then vs[k - o]? else cur[k]? := by
  rw [List.getElem?_toArray]
  have hl : cur.toList.length = cur.size := by simp
  by_cases h1 : k < o
  · rw [if_neg (by omega), List.append_assoc, List.getElem?_append_left (by simp; omega), List.getElem?_take, if_pos h1]
    simp
  · by_cases h2 : k < o + vs.length
    · rw [if_pos ⟨by omega, h2⟩, List.getElem?_append_left (by simp; omega), List.getElem?_append_right (by simp; omega)]
      simp only [List.length_take, Nat.min_eq_left (show o ≤ cur.toList.length by omega)]
    · rw [if_neg (by omega), List.getElem?_append_right (by simp; omega), List.getElem?_drop]
      simp only [List.length_append, List.length_take, Nat.min_eq_left (show o ≤ cur.toList.length by omega)]
      rw [show o + vs.length + (k - (o + vs.length)) = k by omega]
      simp
theorem mid_size (cur : Array Value) (vs : List Value) (o : Nat) (h : o + vs.length ≤ cur.size) : ((cur.toList.take o ++ vs ++ cur.toList.drop (o + vs.length)).toArray).size = cur.size := by
  simp
  omega
theorem keeps_setRow (w : World) {M : Nat → Prop} {g : Nat} (hM : M g) (cs : Array Value) : Keeps M w (w.setRow g cs) :=
  ⟨rfl, rfl, rfl, by simp [World.setRow], fun b _ hn => setRow_other w g b cs (fun e => hn (e ▸ hM)), Drawn.of_le (Nat.le_refl _)⟩
theorem mul_row {i i' j sz : Nat} (hj : j < sz) (h : i ≠ i') : i' * sz + j < i * sz ∨ i * sz + sz ≤ i' * sz + j := by
  rcases Nat.lt_or_ge i' i with h1 | h1
  · left
    have := Nat.mul_le_mul_right sz (show i' + 1 ≤ i from h1)
    rw [Nat.add_mul] at this
    omega
  · right
    have := Nat.mul_le_mul_right sz (show i + 1 ≤ i' by omega)
    rw [Nat.add_mul] at this
    omega
theorem astore_sound (R : HRel w X β H) {t : TypeId} {p x : AV} {ob : Prop} {r : AV} {H' : List Blk} (h : astore C H t p x = some (ob, r, H')) (hob : ob) {vp vx : Value} (hp : Rep w (Mu X β H) β H vp p) (hx : Rep w (Mu X β H) β H vx x) :
    ∃ w' β', (Instr.storeAt t vp vx).run C.P w = .ok () w' ∧ HRel w' X β' H' ∧ StepR w β H w' β' H' ∧ r = .tup [] := by
  unfold astore at h
  split at h
  · rename_i l n sz i f
    split at h
    · rename_i b hb
      split at h
      · rename_i hmu
        obtain ⟨hmu, hz⟩ := hmu
        split at h
        · rename_i cs hcs
          injection h with h; injection h with e1 e2; injection e2 with e2 e3; subst e1 e2 e3
          obtain ⟨o1, o2, o3, o4⟩ := hob
          subst o2
          obtain ⟨ad, b', rfl, hb', hn, hq⟩ := rep_ptr hp
          rw [hb] at hb'; injection hb' with hb'; subst hb'
          obtain ⟨bk, cap, hβ, rfl⟩ := hq o1 rfl o3
          have hB := R.blk l _ b hβ hb
          obtain ⟨cur, h1, h2, h3, h4, h5, h6, h7⟩ := hB
          obtain ⟨c1, c2⟩ := cellsOf_sound hcs hx
          have hi : i < b.rows.length := by omega
          have hvl : vx.cells.toList.length = cs.length := by simpa using c1.1
          have hrow : b.rows[i].length = b.sz := h6 _ (List.getElem_mem hi)
          have hfit : i * b.sz + f + 0 + vx.cells.toList.length ≤ cur.size := by
            rw [h2, hvl]
            have := Nat.mul_le_mul_right b.sz (show i + 1 ≤ cap by omega)
            rw [Nat.add_mul] at this
            omega
          have hone : ∀ v ∈ vx.cells.toList, v.oneCell' = true := by
            intro v hv
            obtain ⟨j, hj, rfl⟩ := List.getElem_of_mem hv
            obtain ⟨v', q1, q2, _⟩ := c1.2 j _ (List.getElem?_eq_getElem (by omega))
            have : vx.cells[j]? = some (vx.cells.toList[j]) := by simp at hj ⊢
            rw [this] at q1
            injection q1 with q1
            rw [q1]; exact q2
          have hst := run_storeCells_at C.P bk (i * b.sz + f) b.e vx.cells.toList 0 cur w h1 hfit hone
          simp only [Nat.add_zero] at hst hfit
          obtain ⟨cur', hcur', hget, hsize⟩ : ∃ cur', cur' = (cur.toList.take (i * b.sz + f) ++ vx.cells.toList ++ cur.toList.drop (i * b.sz + f + vx.cells.toList.length)).toArray ∧
              (∀ k : Nat, cur'[k]? = if i * b.sz + f ≤ k ∧ k < i * b.sz + f + cs.length then vx.cells.toList[k - (i * b.sz + f)]? else cur[k]?) ∧ cur'.size = cur.size :=
            ⟨_, rfl, fun k => by rw [mid_get _ _ _ _ hfit, hvl], mid_size _ _ _ hfit⟩
          rw [← hcur'] at hst
          clear hcur'
          have hM : MutB β H bk := ⟨l, cap, b, hβ, hb, hmu⟩
          have S := set_step (w := w) R hb hβ (.lies bk cap) { b with rows := b.rows.set i (splice (rowAt b.rows i) f cs), deep := b.deep && cs.all AV.isDeep } rfl rfl (by simp) (fun _ => rfl) (fun h => h)
            (fun bk' c e => .inr ⟨c, e⟩) (keeps_setRow w hM cur')
          refine ⟨_, β.set l (.lies bk cap), ?_, set_hrel R hb hβ _ _ S (fun l' bk' c hl hb' => setRow_other w bk bk' _ (fun e => hl (R.inj l' l bk' c cap hb' (e ▸ hβ)))) ?_ (fun bk' c e => ?_) (fun bk' c l' c' e hl hb' => ?_), S, rfl⟩
          · have hsz : vx.cells.size = szT C.P t := by rw [c1.1, c2]
            simp [Instr.storeAt, Instr.sureAddr, storeVar, run_sizeOf (Nat.pos_of_ne_zero hz), hsz, hst]
          · refine ⟨_, setRow_heap w bk cur _ b.e (0, 0) h1, by rw [hsize, h2], by simp; omega, h4, h5, fun r hr => ?_, fun i' j r av hr hj => ?_⟩
            · rcases List.mem_or_eq_of_mem_set hr with hr | rfl
              · exact h6 r hr
              · rw [rowAt_get hi, splice_length _ _ _ (by omega), hrow]
            · simp only [hget]
              by_cases e : i = i'
              · subst e
                rw [List.getElem?_set_self hi] at hr
                injection hr with hr
                subst hr
                rw [rowAt_get hi, splice_get _ _ _ _ (by omega)] at hj
                by_cases hc : f ≤ j ∧ j < f + cs.length
                · rw [if_pos hc] at hj
                  rw [if_pos (by omega), show i * b.sz + j - (i * b.sz + f) = j - f by omega]
                  obtain ⟨v, q1, q2, q3⟩ := c1.2 _ av hj
                  refine ⟨v, by simpa using q1, q2, q3.keep S, fun hd => ?_⟩
                  simp only [Bool.and_eq_true] at hd
                  exact rep_deep (List.all_eq_true.1 hd.2 av (List.mem_of_getElem? hj)) (q3.keep S)
                · rw [if_neg hc] at hj
                  rw [if_neg (by omega)]
                  obtain ⟨v, q1, q2, q3, q4⟩ := h7 i j _ av (List.getElem?_eq_getElem hi) hj
                  refine ⟨v, q1, q2, q3.keep S, fun hd => ?_⟩
                  simp only [Bool.and_eq_true] at hd
                  exact (q4 hd.1).keep (fun b hb hn => S.keeps.block b hb (fun hm => hn (.inr hm))) S.keeps.size (fun b hb => S.mu b hb)
              · rw [List.getElem?_set_ne e] at hr
                have hi' := (List.getElem?_eq_some_iff.1 hr).1
                have hjl : j < b.sz := by
                  have := (List.getElem?_eq_some_iff.1 hj).1
                  rw [h6 r (List.mem_of_getElem? hr)] at this
                  exact this
                have := mul_row (i := i) (i' := i') hjl e
                rw [if_neg (by omega)]
                obtain ⟨v, q1, q2, q3, q4⟩ := h7 i' j r av hr hj
                refine ⟨v, q1, q2, q3.keep S, fun hd => ?_⟩
                simp only [Bool.and_eq_true] at hd
                exact (q4 hd.1).keep (fun b hb hn => S.keeps.block b hb (fun hm => hn (.inr hm))) S.keeps.size (fun b hb => S.mu b hb)
          · injection e with e1 e2
            subst e1
            exact ⟨Nat.lt_of_lt_of_le (R.lt l bk cap hβ).1 S.keeps.size, (R.lt l bk cap hβ).2⟩
          · injection e with e1 e2
            subst e1
            exact hl (R.inj l' l bk c' cap hb' hβ)
        · cases h
      · cases h
    · cases h
  · cases h
def RowsAt (w : World) (a : Option Addr) (n sz : Nat) (val : Nat → Nat → Value) : Prop :=
  n ≠ 0 → ∃ b off, a = some ⟨b, off, none⟩ ∧ ∀ i j, i < n → j < sz → w.cell? ⟨b, off + i * sz + j, none⟩ = some (val i j) ∧ (val i j).oneCell' = true
def flatV (val : Nat → Nat → Value) (n sz : Nat) : List Value := (List.range (n * sz)).map fun k => val (k / sz) (k % sz)
theorem flatV_length (val : Nat → Nat → Value) (n sz : Nat) : (flatV val n sz).length = n * sz := by simp [flatV]
theorem flatV_get (val : Nat → Nat → Value) (n sz i j : Nat) (hi : i < n) (hj : j < sz) : (flatV val n sz)[i * sz + j]? = some (val i j) := by
  have hlt : i * sz + j < n * sz := by
    have := Nat.mul_le_mul_right sz (show i + 1 ≤ n from hi)
    rw [Nat.add_mul] at this
    omega
  have h1 : (i * sz + j) / sz = i := by
    rw [Nat.add_comm, Nat.add_mul_div_right _ _ (by omega), Nat.div_eq_of_lt hj, Nat.zero_add]
  have h2 : (i * sz + j) % sz = j := by rw [Nat.add_comm, Nat.add_mul_mod_self_right, Nat.mod_eq_of_lt hj]
  simp [flatV, hlt, h1, h2]
theorem flatV_mem {w : World} {n sz : Nat} {val : Nat → Nat → Value} {b off : Nat} (h : ∀ i j, i < n → j < sz → w.cell? ⟨b, off + i * sz + j, none⟩ = some (val i j) ∧ (val i j).oneCell' = true) {j : Nat} {v : Value} (hj : (flatV val n sz)[j]? = some v) :
    w.cell? ((⟨b, off, none⟩ : Addr).add j) = some v ∧ v.oneCell' = true := by
  have hlt := (List.getElem?_eq_some_iff.1 hj).1
  rw [flatV_length] at hlt
  have hsz : 0 < sz := by
    rcases Nat.eq_zero_or_pos sz with h | h
    · rw [h] at hlt; simp at hlt
    · exact h
  have hdiv : j / sz < n := Nat.div_lt_of_lt_mul (by rw [Nat.mul_comm]; exact hlt)
  have hmod := Nat.mod_lt j hsz
  have e : j = j / sz * sz + j % sz := by rw [Nat.mul_comm]; exact (Nat.div_add_mod j sz).symm
  have h1 := flatV_get val n sz (j / sz) (j % sz) hdiv hmod
  rw [← e, hj] at h1
  injection h1 with h1
  subst h1
  have h2 := h (j / sz) (j % sz) hdiv hmod
  rw [add_eq]
  rw [show off + j / sz * sz + j % sz = off + j by omega] at h2
  exact h2
theorem append_grow {P : Program} {t ty e : TypeId} (he : elT P t = some e) {z : List AV} (hz : zT P e = some z) {n cap m c : Nat} {a xa : Option Addr} (val xval : Nat → Nat → Value) (ha : RowsAt w a n (szT P e) val) (hx : RowsAt w xa m (szT P e) xval)
    (hm : m ≠ 0) (hcap : cap < n + m) (hb : (n + m) * byT P e ≤ 140737488355328) (hlen : n + m < 1000000000000) (hnone : a = none → n = 0 ∧ cap = 0) :
    ∃ cap' cur, (Builtin.append_ #[t, t] ty #[.slice a n cap, .slice xa m c]).run P w = .ok (.slice (some ⟨w.heap.size, 0, none⟩) (n + m) cap') (w.drew.alloc (.cells cur e)) ∧ cur.size = cap' * szT P e ∧ n + m ≤ cap' ∧ cap' ≤ maxLen ∧
      ∀ i j, i < n + m → j < szT P e → cur[i * szT P e + j]? = some (if i < n then val i j else xval (i - n) j) := by
  obtain ⟨i, zv, z1, z2, z3, z4, z5, z6, z7⟩ := zT_sound hz
  have hby : byT P e = i.bytes := by simp [byT, z1]
  rw [hby] at hb
  have hsz : i.size = szT P e := by rw [z3, z5]
  obtain ⟨xb, xoff, rfl, hxc⟩ := hx hm
  have hml : n + m ≤ maxLen := by unfold maxLen; omega
  have get : ∀ (cs : Array Value) (cap' : Nat) (rest : Array Value), cs = (flatV val n (szT P e)).toArray ++ (flatV xval m (szT P e)).toArray ++ rest → ∀ i j, i < n + m → j < szT P e → cs[i * szT P e + j]? = some (if i < n then val i j else xval (i - n) j) := by
    intro cs cap' rest hcs i j hi hj
    subst hcs
    have hlt : i * szT P e + j < (n + m) * szT P e := by
      have := Nat.mul_le_mul_right (szT P e) (show i + 1 ≤ n + m from hi)
      rw [Nat.add_mul] at this
      omega
    rw [Array.getElem?_append_left (by simp [flatV_length, ← Nat.add_mul]; exact hlt)]
    by_cases hin : i < n
    · have hlt2 : i * szT P e + j < n * szT P e := by
        have := Nat.mul_le_mul_right (szT P e) (show i + 1 ≤ n from hin)
        rw [Nat.add_mul] at this
        omega
      rw [Array.getElem?_append_left (by simp [flatV_length]; exact hlt2), List.getElem?_toArray, flatV_get _ _ _ _ _ hin hj, if_pos hin]
    · have hge : n * szT P e ≤ i * szT P e := Nat.mul_le_mul_right _ (by omega)
      rw [Array.getElem?_append_right (by simp [flatV_length]; omega), List.getElem?_toArray, if_neg hin]
      simp only [List.size_toArray, flatV_length]
      rw [show i * szT P e + j - n * szT P e = (i - n) * szT P e + j by rw [Nat.sub_mul]; omega]
      exact flatV_get _ _ _ _ _ (by omega) hj
  have hge := grownCap_ge w (n + m) cap e
  have hle := grownCap_le_maxLen w (n + m) cap e hml
  cases a with
  | none =>
    obtain ⟨rfl, rfl⟩ := hnone rfl
    have hr := run_append_nil (P := P) w t ty e i zv (elT_eq he) z1 z2 ⟨xb, xoff, none⟩ m c (flatV xval m (szT P e)) (by rw [flatV_length, hsz]) (fun j v hj => (flatV_mem hxc hj).1) (by omega) (by omega) (by rw [Nat.zero_add] at hb; omega)
    simp only [Nat.zero_add] at hge hle ⊢
    refine ⟨_, _, hr, ?_, hge, hle, ?_⟩
    · simp [size_zeroCells, flatV_length, z6, ← z5, ← Nat.add_mul]
      congr 1
      omega
    · intro i j hi hj
      have h0 : flatV val 0 (szT P e) = [] := by simp [flatV]
      have := get ((flatV val 0 (szT P e)).toArray ++ (flatV xval m (szT P e)).toArray ++ Builtin.zeroCells zv.cells (grownCap w m 0 e - m)) 0 _ rfl i j (by omega) hj
      rw [h0] at this
      simpa using this
  | some ad =>
    have holds : ∀ (j : Nat) (v : Value), (flatV val n (szT P e))[j]? = some v → w.cell? (ad.add j) = some v := by
      intro j v hj
      by_cases hn : n = 0
      · subst hn; simp [flatV] at hj
      · obtain ⟨b, off, e1, hc⟩ := ha hn
        injection e1 with e1
        subst e1
        exact (flatV_mem hc hj).1
    have hr := run_append_grow (P := P) w t ty e i zv (elT_eq he) z1 z2 ad n cap (flatV val n (szT P e)) (by rw [flatV_length, hsz]) holds ⟨xb, xoff, none⟩ m c (flatV xval m (szT P e)) (by rw [flatV_length, hsz]) (fun j v hj => (flatV_mem hxc hj).1) hcap (by omega) (growslice_fits hcap hb)
    refine ⟨_, _, hr, ?_, hge, hle, fun i j hi hj => get _ 0 _ rfl i j hi hj⟩
    simp [size_zeroCells, flatV_length, z6, ← z5, ← Nat.add_mul]
    congr 1
    omega
theorem append_zero {P : Program} {t ty e : TypeId} (he : elT P t = some e) (hz : 0 < szT P e) {n cap c : Nat} {a xa : Option Addr} (hn : n ≤ cap) : (Builtin.append_ #[t, t] ty #[.slice a n cap, .slice xa 0 c]).run P w = .ok (.slice a n cap) w := by
  have h1 : (Builtin.firstCells (szT P e) 0 (.slice xa 0 c)).run P w = .ok #[] w := by
    cases xa with
    | none => simp [Builtin.firstCells]
    | some x => simp [Builtin.firstCells, loadCells, loadCellsFrom]
  cases a with
  | none => simp [Builtin.append_, run_underlying (elT_eq he), run_sizeOf hz, Builtin.lenOf, hn, h1]
  | some ad => simp [Builtin.append_, run_underlying (elT_eq he), run_sizeOf hz, Builtin.lenOf, hn, h1, storeCells]
end
end Go.Proofs.YtgjljfbohpnfcaaGreat
namespace Go.Proofs.YtgjljfbohpnfcaaGreat
open Go.RowKit
section
variable {C : Ctx} {w w' : World} {X : Nat → Prop} {β : List BI} {H : List Blk}
theorem blk_new {β' : List BI} {H' : List Blk} (S : StepR w β H w' β' H') {b : Blk} {cur : Array Value} {bk cap : Nat} (hw : w'.heap[bk]? = some (.cells cur b.e (0, 0))) (hcur : cur.size = cap * b.sz) (hle : b.rows.length ≤ cap) (hcm : cap ≤ maxLen) (hz : 0 < b.sz) (hr : ∀ r ∈ b.rows, r.length = b.sz)
    (hc : ∀ (i j : Nat) (r : List AV) (av : AV), b.rows[i]? = some r → r[j]? = some av → ∃ v, cur[i * b.sz + j]? = some v ∧ v.oneCell' = true ∧ Rep w (Mu X β H) β H v av ∧ (b.deep = true → RepD w (Mu X β H) v av)) :
    BlkRep w' (Mu X β' H') β' H' (.lies bk cap) b := by
  refine ⟨cur, hw, hcur, hle, hcm, hz, hr, fun i j r av hi hj => ?_⟩
  obtain ⟨v, h1, h2, h3, h4⟩ := hc i j r av hi hj
  exact ⟨v, h1, h2, h3.keep S, fun hd => (h4 hd).keep (fun b hb hn => S.keeps.block b hb (fun hm => hn (.inr hm))) S.keeps.size (fun b hb => S.mu b hb)⟩
theorem src_rows (R : HRel w X β H) {e : TypeId} {x : AV} {ob : Prop} {ys : List (List AV)} {dp : Bool} (h : (match x with
      | .slice sx _ ys => if sx = szT C.P e then some (True, ys, true) else none
      | .own l' n' => match H[l']? with
        | some b' => if b'.sz = szT C.P e then some (b'.rows.length = n', b'.rows, b'.deep) else none
        | none => none
      | .osl l' n' sz' off len => match H[l']? with
        | some b' => if b'.sz = szT C.P e ∧ sz' = szT C.P e then some (b'.rows.length = n', (b'.rows.drop off).take len, b'.deep) else none
        | none => none
      | _ => none : Option (Prop × List (List AV) × Bool)) = some (ob, ys, dp)) (hob : ob) {vx : Value} (hx : Rep w (Mu X β H) β H vx x) :
    ∃ xa c xval, vx = .slice xa ys.length c ∧ RowsAt w xa ys.length (szT C.P e) xval ∧ (∀ r ∈ ys, r.length = szT C.P e) ∧ ∀ (i j : Nat) (r : List AV) (av : AV), ys[i]? = some r → r[j]? = some av → Rep w (Mu X β H) β H (xval i j) av ∧ (dp = true → RepD w (Mu X β H) (xval i j) av) := by
  split at h
  · split at h
    · rename_i hs
      injection h with h; injection h with e1 e2; injection e2 with e2 e3; subst e1 e2 e3
      obtain ⟨a, cap, val, rfl, h1, h2, h3, hr, hm, hv⟩ := repD_slice (rep_slice hx)
      refine ⟨a, cap, val, rfl, fun h0 => ?_, fun r hr' => by rw [hr r hr', hs], fun i j r av hi hj => ⟨.deep (hv i j r av hi hj), fun _ => hv i j r av hi hj⟩⟩
      obtain ⟨b, off, rfl, _, _, hc⟩ := hm h0
      rw [← hs]
      exact ⟨b, off, rfl, hc⟩
    · cases h
  · rename_i l' n'
    split at h
    · rename_i b' hb'
      split at h
      · rename_i hc
        injection h with h; injection h with e1 e2; injection e2 with e2 e3; subst e1 e2 e3
        obtain ⟨a, cap, b, rfl, hb, hn, h0, hq⟩ := rep_own hx
        rw [hb'] at hb; injection hb with hb; subst hb
        have hq := hq hob
        cases hβ : β[l']? with
        | none => rw [hβ] at hq; exact hq.elim
        | some bi =>
          rw [hβ] at hq
          have hB := R.blk l' bi b' hβ hb'
          rw [hob]
          cases bi with
          | nil =>
            obtain ⟨rfl, rfl⟩ := hq
            have : b'.rows = [] := hB.1
            rw [this]
            exact ⟨a, 0, fun _ _ => undef, rfl, fun h => absurd rfl h, fun r hr => (by cases hr), fun i j r av hi => (by simp at hi)⟩
          | lies bk c =>
            obtain ⟨rfl, rfl⟩ := hq
            obtain ⟨cur, h1, h2, h3, h4, h5, h6, h7⟩ := hB
            refine ⟨_, cap, fun i j => cur.getD (i * b'.sz + j) undef, rfl, fun _ => ⟨bk, 0, rfl, fun i j hi hj => ?_⟩, fun r hr => by rw [h6 r hr, hc], fun i j r av hi hj => ?_⟩
            · have hi' : i < b'.rows.length := by omega
              have hrow : b'.rows[i].length = b'.sz := h6 _ (List.getElem_mem hi')
              rw [← hc] at hj ⊢
              obtain ⟨v, k1, k2, _⟩ := h7 i j _ _ (List.getElem?_eq_getElem hi') (List.getElem?_eq_getElem (show j < b'.rows[i].length by omega))
              rw [show 0 + i * b'.sz + j = i * b'.sz + j by omega, cell_of_row w bk _ cur b'.e (0, 0) h1, k1]
              have : cur.getD (i * b'.sz + j) undef = v := by simp [Array.getD_eq_getD_getElem?, k1]
              show some v = some (cur.getD (i * b'.sz + j) undef) ∧ (cur.getD (i * b'.sz + j) undef).oneCell' = true
              rw [this]
              exact ⟨rfl, k2⟩
            · obtain ⟨v, k1, k2, k3, k4⟩ := h7 i j r av hi hj
              have : cur.getD (i * b'.sz + j) undef = v := by simp [Array.getD_eq_getD_getElem?, k1]
              show Rep w (Mu X β H) β H (cur.getD (i * b'.sz + j) undef) av ∧ (b'.deep = true → RepD w (Mu X β H) (cur.getD (i * b'.sz + j) undef) av)
              rw [this]
              exact ⟨k3, k4⟩
      · cases h
    · cases h
  · rename_i l' n' sz' off len
    split at h
    · rename_i b' hb'
      split at h
      · rename_i hc
        obtain ⟨hc, hcs⟩ := hc
        injection h with h; injection h with e1 e2; injection e2 with e2 e3; subst e1 e2 e3
        obtain ⟨a, cap, b, rfl, hb, hn, hle, h0, hcap, hq⟩ := rep_osl hx
        rw [hb'] at hb; injection hb with hb; subst hb
        have hq := hq hob (by rw [hc, hcs])
        have hlen : ((b'.rows.drop off).take len).length = len := by rw [List.length_take, List.length_drop]; omega
        rw [hlen]
        by_cases hz : len = 0
        · subst hz
          refine ⟨a, cap, fun _ _ => undef, rfl, fun h => absurd rfl h, fun r hr => ?_, fun i j r av hi => ?_⟩
          · rw [List.take_zero] at hr; cases hr
          · rw [List.take_zero] at hi; simp at hi
        cases hβ : β[l']? with
        | none => rw [hβ] at hq; exact hq.elim
        | some bi =>
          rw [hβ] at hq
          have hB := R.blk l' bi b' hβ hb'
          cases bi with
          | nil => obtain ⟨_, q2, _⟩ := hq; exact absurd q2 hz
          | lies bk c =>
            obtain ⟨q1, q2, q3⟩ := hq
            have q3 := q3 (by omega)
            obtain ⟨cur, h1, h2, h3, h4, h5, h6, h7⟩ := hB
            have row : ∀ (i : Nat) (r : List AV), ((b'.rows.drop off).take len)[i]? = some r → b'.rows[off + i]? = some r := fun i r h => by
              rw [List.getElem?_take] at h
              split at h
              · rw [List.getElem?_drop] at h; exact h
              · cases h
            refine ⟨a, cap, fun i j => cur.getD ((off + i) * b'.sz + j) undef, rfl, fun _ => ⟨bk, off * b'.sz, by rw [q3, hcs, hc], fun i j hi hj => ?_⟩, fun r hr => by rw [h6 r (List.mem_of_mem_drop (List.mem_of_mem_take hr)), hc], fun i j r av hi hj => ?_⟩
            · have hi' : off + i < b'.rows.length := by omega
              have hrow : b'.rows[off + i].length = b'.sz := h6 _ (List.getElem_mem hi')
              rw [← hc] at hj ⊢
              obtain ⟨v, k1, k2, _⟩ := h7 (off + i) j _ _ (List.getElem?_eq_getElem hi') (List.getElem?_eq_getElem (show j < b'.rows[off + i].length by omega))
              rw [show off * b'.sz + i * b'.sz + j = (off + i) * b'.sz + j by rw [Nat.add_mul], cell_of_row w bk _ cur b'.e (0, 0) h1, k1]
              have : cur.getD ((off + i) * b'.sz + j) undef = v := by simp [Array.getD_eq_getD_getElem?, k1]
              show some v = some (cur.getD ((off + i) * b'.sz + j) undef) ∧ (cur.getD ((off + i) * b'.sz + j) undef).oneCell' = true
              rw [this]
              exact ⟨rfl, k2⟩
            · obtain ⟨v, k1, k2, k3, k4⟩ := h7 (off + i) j r av (row i r hi) hj
              have : cur.getD ((off + i) * b'.sz + j) undef = v := by simp [Array.getD_eq_getD_getElem?, k1]
              show Rep w (Mu X β H) β H (cur.getD ((off + i) * b'.sz + j) undef) av ∧ (b'.deep = true → RepD w (Mu X β H) (cur.getD ((off + i) * b'.sz + j) undef) av)
              rw [this]
              exact ⟨k3, k4⟩
      · cases h
    · cases h
  · cases h
theorem keeps_drew_alloc (w : World) (o : Obj) : Keeps (fun _ => False) w (w.drew.alloc o) := (Keeps.drew _ w).trans (Keeps.alloc (fun _ => False) w.drew o) (fun _ _ h => h)
theorem rows_cat {rows ys : List (List AV)} {i : Nat} {r : List AV} (h : (rows ++ ys)[i]? = some r) : (i < rows.length ∧ rows[i]? = some r) ∨ (rows.length ≤ i ∧ i - rows.length < ys.length ∧ ys[i - rows.length]? = some r) := by
  rcases Nat.lt_or_ge i rows.length with h1 | h1
  · rw [List.getElem?_append_left h1] at h; exact .inl ⟨h1, h⟩
  · rw [List.getElem?_append_right h1] at h; exact .inr ⟨h1, (List.getElem?_eq_some_iff.1 h).1, h⟩
theorem set_self {l : Nat} {b : Blk} (hb : H[l]? = some b) : H.set l b = H := by
  apply List.ext_getElem?
  intro k
  by_cases e : l = k
  · subst e; rw [List.getElem?_set_self (List.getElem?_eq_some_iff.1 hb).1, hb]
  · rw [List.getElem?_set_ne e]
theorem aappend_sound (R : HRel w X β H) {t : TypeId} {s x : AV} {ob : Prop} {r : AV} {H' : List Blk} (h : aappend C H t s x = some (ob, r, H')) (hob : ob) {vs vx : Value} (hs : Rep w (Mu X β H) β H vs s) (hx : Rep w (Mu X β H) β H vx x) (ty : TypeId) :
    ∃ u w' β', (Builtin.append_ #[t, t] ty #[vs, vx]).run C.P w = .ok u w' ∧ HRel w' X β' H' ∧ StepR w β H w' β' H' ∧ Rep w' (Mu X β' H') β' H' u r := by
  unfold aappend at h
  split at h
  · rename_i e he
    split at h
    · cases h
    · rename_i hz
      obtain ⟨z, hz⟩ : ∃ z, zT C.P e = some z := by cases hz' : zT C.P e <;> simp_all
      have hz0 : 0 < szT C.P e := by
        obtain ⟨i, zv, z1, z2, z3, z4, z5, z6, z7⟩ := zT_sound hz
        omega
      split at h
      · rename_i ob0 ys dp hsrc
        split at h
        · -- a full slice
          rename_i sz rows
          split at h
          · rename_i hsz
            injection h with h; injection h with e1 e2; injection e2 with e2 e3; subst e1 e2 e3
            obtain ⟨o0, o1, o2, o3⟩ := hob
            obtain ⟨xa, c, xval, rfl, hxr, hxl, hxv⟩ := src_rows R hsrc o0 hx
            obtain ⟨a, cap, val, rfl, k1, k2, k3, hr, hm, hv⟩ := repD_slice (rep_slice hs)
            have hcap := k3 rfl
            subst hsz
            by_cases hy : ys = []
            · have hrows : rows = [] := o1.resolve_right (fun h => h hy)
              subst hy hrows
              simp only [List.length_nil] at hcap
              subst hcap
              have hk := Keeps.refl (fun _ => False) w
              have S := push_step (w' := w) R hk .nil ⟨e, szT C.P e, [] ++ [], true, dp⟩ (fun bk c e => by cases e)
              refine ⟨_, w, β ++ [.nil], append_zero he hz0 (Nat.le_refl 0), push_hrel R hk .nil _ (fun bk c e => by cases e) (fun bk c e => by cases e) ⟨rfl, hz0⟩, S, ?_⟩
              refine .own H.length 0 a 0 _ (getElem?_snoc_new H _) (Nat.le_refl _) (.inl rfl) (Nat.le_refl _) fun _ => ?_
              rw [← R.len, getElem?_snoc_new]
              exact ⟨rfl, rfl⟩
            · have hm0 : ys.length ≠ 0 := fun h => hy (List.length_eq_zero_iff.1 h)
              rw [List.length_append] at o2 o3
              obtain ⟨cap', cur, g1, g2, g3, g4, g5⟩ := append_grow (w := w) he hz (n := rows.length) (cap := cap) (m := ys.length) (c := c) (ty := ty) val xval (fun h0 => by
                obtain ⟨b, off, e1, _, _, hc⟩ := hm h0
                exact ⟨b, off, e1, hc⟩) hxr hm0 (by omega) o2 o3 (fun hn => by
                  by_cases h0 : rows.length = 0
                  · exact ⟨h0, by omega⟩
                  · obtain ⟨b, off, e1, _⟩ := hm h0
                    rw [hn] at e1; cases e1)
              have hk := keeps_drew_alloc w (.cells cur e)
              have S := push_step R hk (.lies w.heap.size cap') ⟨e, szT C.P e, rows ++ ys, true, dp⟩ (fun bk c e => by injection e with e _; omega)
              refine ⟨_, _, β ++ [.lies w.heap.size cap'], g1, push_hrel R hk _ _ (fun bk c e => by injection e with e _; omega) (fun bk c e => by injection e with e _; subst e; simp) ?_, S, ?_⟩
              · refine blk_new S (heap_alloc_new w.drew _) g2 (by simpa using g3) g4 hz0 (fun r hr' => ?_) (fun i j r av hi hj => ?_)
                · rcases List.mem_append.1 hr' with h | h
                  · exact hr r h
                  · exact hxl r h
                · have hil := (List.getElem?_eq_some_iff.1 hi).1
                  rw [List.length_append] at hil
                  have hjl := (List.getElem?_eq_some_iff.1 hj).1
                  rcases rows_cat hi with ⟨h1, h2⟩ | ⟨h1, h2, h3⟩
                  · have hjl' : j < szT C.P e := by rw [← hr r (List.mem_of_getElem? h2)]; exact hjl
                    have hg := g5 i j hil hjl'
                    rw [if_pos h1] at hg
                    obtain ⟨b, off, _, _, _, hc⟩ := hm (by omega)
                    exact ⟨_, hg, (hc i j h1 hjl').2, .deep (hv i j r av h2 hj), fun _ => hv i j r av h2 hj⟩
                  · have hjl' : j < szT C.P e := by rw [← hxl r (List.mem_of_getElem? h3)]; exact hjl
                    have hg := g5 i j hil hjl'
                    rw [if_neg (by omega)] at hg
                    obtain ⟨b, off, _, hc⟩ := hxr hm0
                    exact ⟨_, hg, (hc _ j h2 hjl').2, (hxv _ j r av h3 hj).1, (hxv _ j r av h3 hj).2⟩
              · rw [List.length_append]
                refine .own H.length _ _ cap' _ (getElem?_snoc_new H _) (by simp) (.inr ⟨_, rfl⟩) (by omega) fun _ => ?_
                rw [← R.len, getElem?_snoc_new]
                exact ⟨rfl, rfl⟩
          · cases h
        · -- a slice of the call's own
          rename_i l n
          split at h
          · rename_i b hb
            split at h
            · rename_i hmu
              injection h with h; injection h with e1 e2; injection e2 with e2 e3; subst e1 e2 e3
              obtain ⟨o0, od, o1, o2, o3⟩ := hob
              obtain ⟨xa, c, xval, rfl, hxr, hxl, hxv⟩ := src_rows R hsrc o0 hx
              obtain ⟨a, cap, b', rfl, hb', hn, h0, hq⟩ := rep_own hs
              rw [hb] at hb'; injection hb' with hb'; subst hb'
              have hq := hq o1
              cases hβ : β[l]? with
              | none => rw [hβ] at hq; exact hq.elim
              | some bi =>
                have hq' := hq
                rw [hβ] at hq
                have hB := R.blk l bi b hβ hb
                by_cases hy : ys = []
                · subst hy
                  have hdp : dp = true := od.resolve_right (fun h => h rfl)
                  subst hdp
                  have hcapn : n ≤ cap := by
                    cases bi with
                    | nil => obtain ⟨rfl, rfl⟩ := hq; exact Nat.le_refl _
                    | lies bk c0 =>
                      obtain ⟨rfl, rfl⟩ := hq
                      obtain ⟨cur, h1, h2, h3, _⟩ := hB
                      omega
                  have hbb : ({ b with rows := b.rows ++ [], deep := b.deep && true } : Blk) = b := by cases b; simp
                  rw [hbb, set_self hb, List.append_nil, o1]
                  exact ⟨_, w, β, append_zero he hz0 hcapn, R, StepR.refl w β H R.len, hs⟩
                · have hm0 : ys.length ≠ 0 := fun h => hy (List.length_eq_zero_iff.1 h)
                  have hne : (b.rows ++ ys).length ≠ b.rows.length := by rw [List.length_append]; omega
                  rw [List.length_append] at o2 o3
                  have hbs := hmu.2.2
                  -- behind a growing append
                  have grown : ∀ (val : Nat → Nat → Value) (cap' : Nat) (cur : Array Value), (∀ i j, i < n → j < szT C.P e → (val i j).oneCell' = true) →
                      (∀ (i j : Nat) (r : List AV) (av : AV), b.rows[i]? = some r → r[j]? = some av → Rep w (Mu X β H) β H (val i j) av ∧ (b.deep = true → RepD w (Mu X β H) (val i j) av)) → (∀ r ∈ b.rows, r.length = szT C.P e) →
                      cur.size = cap' * szT C.P e → n + ys.length ≤ cap' → cap' ≤ maxLen → (∀ i j, i < n + ys.length → j < szT C.P e → cur[i * szT C.P e + j]? = some (if i < n then val i j else xval (i - n) j)) →
                      ∃ β', HRel (w.drew.alloc (.cells cur e)) X β' (H.set l { b with rows := b.rows ++ ys, deep := b.deep && dp }) ∧ StepR w β H (w.drew.alloc (.cells cur e)) β' (H.set l { b with rows := b.rows ++ ys, deep := b.deep && dp }) ∧
                        Rep (w.drew.alloc (.cells cur e)) (Mu X β' (H.set l { b with rows := b.rows ++ ys, deep := b.deep && dp })) β' (H.set l { b with rows := b.rows ++ ys, deep := b.deep && dp }) (.slice (some ⟨w.heap.size, 0, none⟩) (n + ys.length) cap') (.own l (b.rows ++ ys).length) := by
                    intro val cap' cur hone hval hrl g2 g3 g4 g5
                    have hk := keeps_drew_alloc w (.cells cur e)
                    have S := set_step (w := w) R hb hβ (.lies w.heap.size cap') { b with rows := b.rows ++ ys, deep := b.deep && dp } rfl rfl (by simp) (fun h => absurd h hne) (fun h => h) (fun bk c e => by injection e with e _; exact .inl (by omega)) (hk.weaken fun _ _ h => h.elim)
                    refine ⟨β.set l (.lies w.heap.size cap'), set_hrel R hb hβ _ _ S (fun l' bk c hl hb' => hk.block bk (R.lt l' bk c hb').1 id) ?_ (fun bk c e => ?_) (fun bk c l' c' e hl hb' => ?_), S, ?_⟩
                    · refine blk_new S (by rw [hmu.2.1]; exact heap_alloc_new w.drew _) (by rw [hbs]; exact g2) (by simp; omega) g4 (by rw [hbs]; exact hz0) (fun r hr' => ?_) (fun i j r av hi hj => ?_)
                      · rcases List.mem_append.1 hr' with h | h
                        · rw [hrl r h, hbs]
                        · rw [hxl r h, hbs]
                      · simp only [hbs]
                        have hil := (List.getElem?_eq_some_iff.1 hi).1
                        rw [List.length_append] at hil
                        have hjl := (List.getElem?_eq_some_iff.1 hj).1
                        rcases rows_cat hi with ⟨h1, h2⟩ | ⟨h1, h2, h3⟩
                        · have hjl' : j < szT C.P e := by rw [← hrl r (List.mem_of_getElem? h2)]; exact hjl
                          have hg := g5 i j (by omega) hjl'
                          rw [if_pos (by omega)] at hg
                          obtain ⟨q1, q2⟩ := hval i j r av h2 hj
                          exact ⟨_, hg, hone i j (by omega) hjl', q1, fun hd => q2 (Bool.and_eq_true_iff.1 hd).1⟩
                        · have hjl' : j < szT C.P e := by rw [← hxl r (List.mem_of_getElem? h3)]; exact hjl
                          have hg := g5 i j (by omega) hjl'
                          rw [if_neg (by omega), show i - n = i - b.rows.length by omega] at hg
                          obtain ⟨b0, off, _, hc⟩ := hxr hm0
                          exact ⟨_, hg, (hc _ j h2 hjl').2, (hxv _ j r av h3 hj).1, fun hd => (hxv _ j r av h3 hj).2 (Bool.and_eq_true_iff.1 hd).2⟩
                    · injection e with e1 e2
                      subst e1
                      exact ⟨by simp, fun h => Nat.lt_irrefl _ (R.base _ h)⟩
                    · injection e with e1 e2
                      subst e1
                      exact Nat.lt_irrefl _ (R.lt l' _ c' hb').1
                    · rw [List.length_append, o1]
                      refine .own l _ _ cap' { b with rows := b.rows ++ ys, deep := b.deep && dp } (List.getElem?_set_self (List.getElem?_eq_some_iff.1 hb).1) (by simp; omega) (.inr ⟨_, rfl⟩) (by omega) fun _ => ?_
                      rw [List.getElem?_set_self (List.getElem?_eq_some_iff.1 hβ).1]
                      exact ⟨rfl, rfl⟩
                  cases bi with
                  | nil =>
                    obtain ⟨rfl, rfl⟩ := hq
                    have hrows : b.rows = [] := List.length_eq_zero_iff.1 o1
                    obtain ⟨cap', cur, g1, g2, g3, g4, g5⟩ := append_grow (w := w) he hz (n := 0) (cap := 0) (m := ys.length) (c := c) (ty := ty) (a := a) (fun _ _ => undef) xval (fun h0 => absurd rfl h0) hxr hm0 (by omega) (by rw [o1] at o2; exact o2) (by omega) (fun _ => ⟨rfl, rfl⟩)
                    obtain ⟨β', R', S, hr⟩ := grown (fun _ _ => undef) cap' cur (fun i j hi => by omega) (fun i j r av hi => by rw [hrows] at hi; simp at hi) (fun r hr => by rw [hrows] at hr; cases hr) g2 g3 g4 g5
                    exact ⟨_, _, β', g1, R', S, hr⟩
                  | lies bk c0 =>
                    obtain ⟨rfl, rfl⟩ := hq
                    obtain ⟨cur0, h1, h2, h3, h4, h5, h6, h7⟩ := hB
                    have cell : ∀ i j, i < n → j < szT C.P e → ∃ v, cur0[i * szT C.P e + j]? = some v ∧ v.oneCell' = true := by
                      intro i j hi hj
                      have hi' : i < b.rows.length := by omega
                      have hrow : b.rows[i].length = b.sz := h6 _ (List.getElem_mem hi')
                      obtain ⟨v, k1, k2, _⟩ := h7 i j _ _ (List.getElem?_eq_getElem hi') (List.getElem?_eq_getElem (show j < b.rows[i].length by omega))
                      rw [hbs] at k1
                      exact ⟨v, k1, k2⟩
                    by_cases hroom : n + ys.length ≤ cap
                    · obtain ⟨i0, zv, z1, z2, z3, z4, z5, z6, z7⟩ := zT_sound hz
                      have hisz : i0.size = szT C.P e := by rw [z3, z5]
                      obtain ⟨xb, xoff, rfl, hxc⟩ := hxr hm0
                      have hfit : n * szT C.P e + (flatV xval ys.length (szT C.P e)).length ≤ cur0.size := by
                        rw [flatV_length, h2, hbs, ← Nat.add_mul]
                        exact Nat.mul_le_mul_right _ hroom
                      have hrun := run_append_room (P := C.P) w t ty e i0 (elT_eq he) z1 bk n cap cur0 (by rw [← hmu.2.1]; exact h1) ⟨xb, xoff, none⟩ ys.length c (flatV xval ys.length (szT C.P e)) (by rw [flatV_length, hisz]) (fun j u hj => (flatV_mem hxc hj).1)
                        (fun u hu => by obtain ⟨j, hj, rfl⟩ := List.getElem_of_mem hu; exact (flatV_mem hxc (List.getElem?_eq_getElem hj)).2) hroom (by rw [hisz]; exact hfit)
                      rw [hisz] at hrun
                      obtain ⟨cur', hcur', hget, hsize⟩ : ∃ cur', cur' = (cur0.toList.take (n * szT C.P e) ++ flatV xval ys.length (szT C.P e) ++ cur0.toList.drop (n * szT C.P e + (flatV xval ys.length (szT C.P e)).length)).toArray ∧
                          (∀ k : Nat, cur'[k]? = if n * szT C.P e ≤ k ∧ k < n * szT C.P e + ys.length * szT C.P e then (flatV xval ys.length (szT C.P e))[k - n * szT C.P e]? else cur0[k]?) ∧ cur'.size = cur0.size :=
                        ⟨_, rfl, fun k => by rw [mid_get _ _ _ _ hfit, flatV_length], mid_size _ _ _ hfit⟩
                      rw [← hcur'] at hrun
                      clear hcur'
                      have hM : MutB β H bk := ⟨l, cap, b, hβ, hb, hmu.1⟩
                      have S := set_step (w := w) R hb hβ (.lies bk cap) { b with rows := b.rows ++ ys, deep := b.deep && dp } rfl rfl (by simp) (fun h => absurd h hne) (fun h => h) (fun bk c e => .inr ⟨c, e⟩) (keeps_setRow w hM cur')
                      refine ⟨_, _, β.set l (.lies bk cap), hrun, set_hrel R hb hβ _ _ S (fun l' bk' c hl hb' => setRow_other w bk bk' _ (fun e => hl (R.inj l' l bk' c cap hb' (e ▸ hβ)))) ?_ (fun bk' c e => ?_) (fun bk' c l' c' e hl hb' => ?_), S, ?_⟩
                      · refine blk_new S (setRow_heap w bk cur0 _ b.e (0, 0) h1) (by rw [hsize, h2]) (by simp; omega) h4 (by rw [hbs]; exact hz0) (fun r hr' => ?_) (fun i j r av hi hj => ?_)
                        · rcases List.mem_append.1 hr' with h | h
                          · exact h6 r h
                          · rw [hxl r h, hbs]
                        · simp only [hbs, hget]
                          have hjl := (List.getElem?_eq_some_iff.1 hj).1
                          rcases rows_cat hi with ⟨h1', h2'⟩ | ⟨h1', h2', h3'⟩
                          · have hjl' : j < szT C.P e := by rw [← hbs, ← h6 r (List.mem_of_getElem? h2')]; exact hjl
                            have hlt : i * szT C.P e + j < n * szT C.P e := by
                              have := Nat.mul_le_mul_right (szT C.P e) (show i + 1 ≤ n by omega)
                              rw [Nat.add_mul] at this
                              omega
                            rw [if_neg (by omega)]
                            obtain ⟨v, q1, q2, q3, q4⟩ := h7 i j r av h2' hj
                            rw [hbs] at q1
                            exact ⟨v, q1, q2, q3, fun hd => q4 (Bool.and_eq_true_iff.1 hd).1⟩
                          · have hjl' : j < szT C.P e := by rw [← hxl r (List.mem_of_getElem? h3')]; exact hjl
                            have hge : n * szT C.P e ≤ i * szT C.P e := Nat.mul_le_mul_right _ (by omega)
                            have hsub : i * szT C.P e + j - n * szT C.P e = (i - n) * szT C.P e + j := by rw [Nat.sub_mul]; omega
                            have hlt : (i - n) * szT C.P e + j < ys.length * szT C.P e := by
                              have := Nat.mul_le_mul_right (szT C.P e) (show i - n + 1 ≤ ys.length by omega)
                              rw [Nat.add_mul] at this
                              omega
                            rw [if_pos (by omega), hsub, flatV_get _ _ _ _ _ (by omega) hjl']
                            refine ⟨_, rfl, (hxc _ j (by omega) hjl').2, ?_⟩
                            have := hxv (i - n) j r av (by rw [show i - n = i - b.rows.length by omega]; exact h3') hj
                            exact ⟨this.1, fun hd => this.2 (Bool.and_eq_true_iff.1 hd).2⟩
                      · injection e with e1 e2
                        subst e1
                        exact ⟨Nat.lt_of_lt_of_le (R.lt l bk cap hβ).1 S.keeps.size, (R.lt l bk cap hβ).2⟩
                      · injection e with e1 e2
                        subst e1
                        exact hl (R.inj l' l bk c' cap hb' hβ)
                      · rw [List.length_append, o1]
                        refine .own l _ _ cap { b with rows := b.rows ++ ys, deep := b.deep && dp } (List.getElem?_set_self (List.getElem?_eq_some_iff.1 hb).1) (by simp; omega) (.inr ⟨_, rfl⟩) (by omega) fun _ => ?_
                        rw [List.getElem?_set_self (List.getElem?_eq_some_iff.1 hβ).1]
                        exact ⟨rfl, rfl⟩
                    · obtain ⟨cap', cur, g1, g2, g3, g4, g5⟩ := append_grow (w := w) he hz (n := n) (cap := cap) (m := ys.length) (c := c) (ty := ty) (a := some ⟨bk, 0, none⟩) (fun i j => cur0.getD (i * szT C.P e + j) undef) xval (fun _ => ⟨bk, 0, rfl, fun i j hi hj => by
                        obtain ⟨v, k1, k2⟩ := cell i j hi hj
                        have : cur0.getD (i * szT C.P e + j) undef = v := by simp [Array.getD_eq_getD_getElem?, k1]
                        rw [show 0 + i * szT C.P e + j = i * szT C.P e + j by omega, cell_of_row w bk _ cur0 b.e (0, 0) h1, k1]
                        show some v = some (cur0.getD (i * szT C.P e + j) undef) ∧ (cur0.getD (i * szT C.P e + j) undef).oneCell' = true
                        rw [this]
                        exact ⟨rfl, k2⟩⟩) hxr hm0 (by omega) (by rw [o1] at o2; exact o2) (by omega) (fun h => by cases h)
                      obtain ⟨β', R', S, hr⟩ := grown (fun i j => cur0.getD (i * szT C.P e + j) undef) cap' cur (fun i j hi hj => by
                          obtain ⟨v, k1, k2⟩ := cell i j hi hj
                          have : cur0.getD (i * szT C.P e + j) undef = v := by simp [Array.getD_eq_getD_getElem?, k1]
                          show (cur0.getD (i * szT C.P e + j) undef).oneCell' = true
                          rw [this]; exact k2) (fun i j r av hi hj => by
                          obtain ⟨v, q1, q2, q3, q4⟩ := h7 i j r av hi hj
                          rw [hbs] at q1
                          have : cur0.getD (i * szT C.P e + j) undef = v := by simp [Array.getD_eq_getD_getElem?, q1]
                          show Rep w (Mu X β H) β H (cur0.getD (i * szT C.P e + j) undef) av ∧ (b.deep = true → RepD w (Mu X β H) (cur0.getD (i * szT C.P e + j) undef) av)
                          rw [this]; exact ⟨q3, q4⟩) (fun r hr => by rw [← hbs]; exact h6 r hr) g2 g3 g4 g5
                      exact ⟨_, _, β', g1, R', S, hr⟩
            · cases h
          · cases h
        · cases h
      · cases h
  · cases h
theorem write_rows (R : HRel w X β H) {l bk cap : Nat} {b : Blk} (hb : H[l]? = some b) (hβ : β[l]? = some (BI.lies bk cap)) (hmu : b.mu = true) (off : Nat) (ys : List (List AV)) (vs : List Value) (dp : Bool) (hlen : off + ys.length ≤ b.rows.length) (hvl : vs.length = ys.length * b.sz)
    (hone : ∀ v ∈ vs, v.oneCell' = true) (hyl : ∀ r ∈ ys, r.length = b.sz) (hv : ∀ (i j : Nat) (r : List AV) (av : AV), ys[i]? = some r → r[j]? = some av → ∃ v, vs[i * b.sz + j]? = some v ∧ Rep w (Mu X β H) β H v av ∧ (dp = true → RepD w (Mu X β H) v av)) :
    ∃ w' β', (storeCells ⟨bk, off * b.sz, none⟩ vs).run C.P w = .ok () w' ∧ HRel w' X β' (H.set l { b with rows := b.rows.take off ++ ys ++ b.rows.drop (off + ys.length), deep := b.deep && dp }) ∧ StepR w β H w' β' (H.set l { b with rows := b.rows.take off ++ ys ++ b.rows.drop (off + ys.length), deep := b.deep && dp }) := by
  have hB := R.blk l _ b hβ hb
  obtain ⟨cur, h1, h2, h3, h4, h5, h6, h7⟩ := hB
  have hmulle : ∀ i j m : Nat, j < b.sz → i < m → i * b.sz + j < m * b.sz := fun i j m hj hi => by
    have := Nat.mul_le_mul_right b.sz (show i + 1 ≤ m from hi)
    rw [Nat.add_mul] at this
    omega
  have hfit : off * b.sz + 0 + vs.length ≤ cur.size := by
    rw [h2, hvl, Nat.add_zero, ← Nat.add_mul]
    exact Nat.mul_le_mul_right _ (by omega)
  have hst := run_storeCells_at C.P bk (off * b.sz) b.e vs 0 cur w h1 hfit hone
  simp only [Nat.add_zero] at hst hfit
  obtain ⟨cur', hcur', hget, hsize⟩ : ∃ cur', cur' = (cur.toList.take (off * b.sz) ++ vs ++ cur.toList.drop (off * b.sz + vs.length)).toArray ∧
      (∀ k : Nat, cur'[k]? = if off * b.sz ≤ k ∧ k < off * b.sz + vs.length then vs[k - off * b.sz]? else cur[k]?) ∧ cur'.size = cur.size :=
    ⟨_, rfl, fun k => by rw [mid_get _ _ _ _ hfit], mid_size _ _ _ hfit⟩
  rw [← hcur'] at hst
  clear hcur'
  have hM : MutB β H bk := ⟨l, cap, b, hβ, hb, hmu⟩
  have hrl : (b.rows.take off ++ ys ++ b.rows.drop (off + ys.length)).length = b.rows.length := by simp; omega
  have S := set_step (w := w) R hb hβ (.lies bk cap) { b with rows := b.rows.take off ++ ys ++ b.rows.drop (off + ys.length), deep := b.deep && dp } rfl rfl (by simp only [hrl]; exact Nat.le_refl _) (fun _ => rfl) (fun h => h)
    (fun bk' c e => .inr ⟨c, e⟩) (keeps_setRow w hM cur')
  refine ⟨_, β.set l (.lies bk cap), hst, set_hrel R hb hβ _ _ S (fun l' bk' c hl hb' => setRow_other w bk bk' _ (fun e => hl (R.inj l' l bk' c cap hb' (e ▸ hβ)))) ?_ (fun bk' c e => ?_) (fun bk' c l' c' e hl hb' => ?_), S⟩
  · have rowget : ∀ i r, (b.rows.take off ++ ys ++ b.rows.drop (off + ys.length))[i]? = some r → (i < off ∧ b.rows[i]? = some r) ∨ (off ≤ i ∧ i < off + ys.length ∧ ys[i - off]? = some r) ∨ (off + ys.length ≤ i ∧ b.rows[i]? = some r) := by
      intro i r hr
      have hto : (b.rows.take off).length = off := by simp; omega
      rcases Nat.lt_or_ge i off with hi | hi
      · rw [List.append_assoc, List.getElem?_append_left (by omega), List.getElem?_take, if_pos hi] at hr
        exact .inl ⟨hi, hr⟩
      · rcases Nat.lt_or_ge i (off + ys.length) with hi2 | hi2
        · rw [List.getElem?_append_left (by simp; omega), List.getElem?_append_right (by omega), hto] at hr
          exact .inr (.inl ⟨hi, hi2, hr⟩)
        · rw [List.getElem?_append_right (by simp; omega), List.getElem?_drop] at hr
          simp only [List.length_append, hto] at hr
          rw [show off + ys.length + (i - (off + ys.length)) = i by omega] at hr
          exact .inr (.inr ⟨hi2, hr⟩)
    refine ⟨_, setRow_heap w bk cur _ b.e (0, 0) h1, by rw [hsize, h2], by rw [hrl]; exact h3, h4, h5, fun r hr => ?_, fun i' j r av hr hj => ?_⟩
    · obtain ⟨i, hi⟩ := List.getElem?_of_mem hr
      rcases rowget i r hi with ⟨_, h⟩ | ⟨_, _, h⟩ | ⟨_, h⟩
      · exact h6 r (List.mem_of_getElem? h)
      · exact hyl r (List.mem_of_getElem? h)
      · exact h6 r (List.mem_of_getElem? h)
    · simp only [hget]
      have old : b.rows[i']? = some r → ¬ (off * b.sz ≤ i' * b.sz + j ∧ i' * b.sz + j < off * b.sz + vs.length) → ∃ v, (if off * b.sz ≤ i' * b.sz + j ∧ i' * b.sz + j < off * b.sz + vs.length then vs[i' * b.sz + j - off * b.sz]? else cur[i' * b.sz + j]?) = some v ∧ v.oneCell' = true ∧ Rep (w.setRow bk cur') (Mu X (β.set l (.lies bk cap)) (H.set l { b with rows := b.rows.take off ++ ys ++ b.rows.drop (off + ys.length), deep := b.deep && dp })) (β.set l (.lies bk cap)) (H.set l { b with rows := b.rows.take off ++ ys ++ b.rows.drop (off + ys.length), deep := b.deep && dp }) v av ∧ ((b.deep && dp) = true → RepD (w.setRow bk cur') (Mu X (β.set l (.lies bk cap)) (H.set l { b with rows := b.rows.take off ++ ys ++ b.rows.drop (off + ys.length), deep := b.deep && dp })) v av) := by
        intro hr hn
        rw [if_neg hn]
        obtain ⟨v, q1, q2, q3, q4⟩ := h7 i' j r av hr hj
        refine ⟨v, q1, q2, q3.keep S, fun hd => ?_⟩
        simp only [Bool.and_eq_true] at hd
        exact (q4 hd.1).keep (fun b hb hn => S.keeps.block b hb (fun hm => hn (.inr hm))) S.keeps.size (fun b hb => S.mu b hb)
      have hjl : b.rows[i']? = some r ∨ ys[i' - off]? = some r → j < b.sz := fun h => by
        have := (List.getElem?_eq_some_iff.1 hj).1
        rcases h with h | h
        · rw [h6 r (List.mem_of_getElem? h)] at this; exact this
        · rw [hyl r (List.mem_of_getElem? h)] at this; exact this
      rcases rowget i' r hr with ⟨hi, h⟩ | ⟨hi, hi2, h⟩ | ⟨hi, h⟩
      · refine old h ?_
        have := hmulle i' j off (hjl (.inl h)) hi
        omega
      · have hj' := hjl (.inr h)
        have e1 : off * b.sz + (i' - off) * b.sz = i' * b.sz := by rw [← Nat.add_mul]; congr 1; omega
        have e2 := hmulle (i' - off) j ys.length hj' (by omega)
        obtain ⟨v, q1, q3, q4⟩ := hv (i' - off) j r av h hj
        rw [if_pos (by omega), show i' * b.sz + j - off * b.sz = (i' - off) * b.sz + j by omega]
        refine ⟨v, q1, hone v (List.mem_of_getElem? q1), q3.keep S, fun hd => ?_⟩
        simp only [Bool.and_eq_true] at hd
        exact (q4 hd.2).keep (fun b hb hn => S.keeps.block b hb (fun hm => hn (.inr hm))) S.keeps.size (fun b hb => S.mu b hb)
      · refine old h ?_
        have := Nat.mul_le_mul_right b.sz hi
        rw [Nat.add_mul] at this
        omega
  · injection e with e1 e2
    subst e1
    exact ⟨Nat.lt_of_lt_of_le (R.lt l bk cap hβ).1 S.keeps.size, (R.lt l bk cap hβ).2⟩
  · injection e with e1 e2
    subst e1
    exact hl (R.inj l' l bk c' cap hb' hβ)
theorem aclear_sound (R : HRel w X β H) {t : TypeId} {s : AV} {ob : Prop} {r : AV} {H' : List Blk} (h : aclear C H t s = some (ob, r, H')) (hob : ob) {vs : Value} (hs : Rep w (Mu X β H) β H vs s) (ty : TypeId) :
    ∃ w' β', (Builtin.clear_ #[t] ty #[vs]).run C.P w = .ok (.tuple #[]) w' ∧ HRel w' X β' H' ∧ StepR w β H w' β' H' ∧ r = .tup [] := by
  unfold aclear at h
  split at h
  · rename_i e l n sz off len he
    split at h
    · rename_i z b hz hb
      split at h
      · rename_i hc
        obtain ⟨hmu, hsz⟩ := hc
        injection h with h; injection h with e1 e2; injection e2 with e2 e3; subst e1 e2 e3
        obtain ⟨o1, o2⟩ := hob
        obtain ⟨i, zv, z1, z2, z3, z4, z5, z6, z7⟩ := zT_sound hz
        obtain ⟨a, cap, b', rfl, hb', hn, hle, h0, hcap, hx⟩ := rep_osl hs
        rw [hb] at hb'; injection hb' with hb'; subst hb'
        have hx := hx o1 o2
        have hzr : (zeroValue e).run C.P w = .ok zv w := by simp [zeroValue, typeInfo, z1, z2]
        have hbsz : b.sz = z.length := by rw [o2, hsz, z5]
        rcases Nat.eq_zero_or_pos len with hl0 | hl0
        · subst hl0
          have hbb : ({ b with rows := b.rows.take off ++ List.replicate 0 z ++ b.rows.drop (off + 0), deep := b.deep && z.all AV.isDeep } : Blk) = { b with deep := b.deep && z.all AV.isDeep } := by simp
          rw [hbb]
          have hβ : ∃ bi, β[l]? = some bi := by
            cases hβ : β[l]? with
            | none => rw [hβ] at hx; exact hx.elim
            | some bi => exact ⟨bi, rfl⟩
          obtain ⟨bi, hβ⟩ := hβ
          have hB := R.blk l bi b hβ hb
          have S := set_step (w := w) (w' := w) R hb hβ bi { b with deep := b.deep && z.all AV.isDeep } rfl rfl (Nat.le_refl _) (fun _ => rfl) (fun h => h) (fun bk c e => .inr ⟨c, e⟩) (Keeps.refl _ _)
          refine ⟨w, β.set l bi, ?_, set_hrel R hb hβ _ _ S (fun _ _ _ _ _ => rfl) ?_ (fun bk c e => by subst e; exact R.lt l bk c hβ) (fun bk c l' c' e hl hb' => by subst e; exact hl (R.inj l' l bk c' c hb' hβ)), S, rfl⟩
          · cases a <;> simp [Builtin.clear_, run_underlying (elT_eq he)]
          · cases bi with
            | nil => exact hB
            | lies bk c =>
              obtain ⟨cur, h1, h2, h3, h4, h5, h6, h7⟩ := hB
              refine ⟨cur, h1, h2, h3, h4, h5, h6, fun i j r av hr hj => ?_⟩
              obtain ⟨v, q1, q2, q3, q4⟩ := h7 i j r av hr hj
              refine ⟨v, q1, q2, q3.keep S, fun hd => ?_⟩
              simp only [Bool.and_eq_true] at hd
              exact (q4 hd.1).keep (fun b hb hn => S.keeps.block b hb (fun hm => hn (.inr hm))) S.keeps.size (fun b hb => S.mu b hb)
        · cases hβ : β[l]? with
          | none => rw [hβ] at hx; exact hx.elim
          | some bi =>
            rw [hβ] at hx
            cases bi with
            | nil => have := hx.2.1; omega
            | lies bk c =>
              obtain ⟨hoc, rfl, hadr⟩ := hx
              have hadr := hadr (by omega)
              subst hadr
              have hzget : ∀ i j, i < len → j < z.length → (Builtin.zeroCells zv.cells len).toList[i * z.length + j]? = zv.cells[j]? := by
                intro i j hi hj
                have hlt : i * z.length + j < len * z.length := by
                  have := Nat.mul_le_mul_right z.length (show i + 1 ≤ len from hi)
                  rw [Nat.add_mul] at this
                  omega
                rw [Array.getElem?_toList]
                simp only [Builtin.zeroCells, Array.getElem?_map]
                have hm : (i * z.length + j) % zv.cells.size = j := by rw [z6, Nat.add_comm, Nat.add_mul_mod_self_right, Nat.mod_eq_of_lt hj]
                rw [Array.getElem?_range, if_pos (by rw [z6]; first | exact hlt | (rw [Nat.mul_comm z.length]; exact hlt))]
                simp only [Option.map_some, hm]
                rw [getElem!_pos zv.cells j (by omega), Array.getElem?_eq_getElem (by omega)]
              have hzlen : (Builtin.zeroCells zv.cells len).toList.length = len * z.length := by simp [size_zeroCells, z6]
              obtain ⟨w', β', g1, g2, g3⟩ := write_rows (C := C) R hb hβ hmu off (List.replicate len z) (Builtin.zeroCells zv.cells len).toList (z.all AV.isDeep) (by simp; omega) (by rw [hzlen, hbsz]; simp) (fun v hv => by
                obtain ⟨k, hk⟩ := List.getElem?_of_mem hv
                have hk' := (List.getElem?_eq_some_iff.1 hk).1
                rw [hzlen] at hk'
                have hzp : 0 < z.length := by omega
                have hkm : k % z.length < z.length := Nat.mod_lt _ hzp
                have hkd : k / z.length < len := Nat.div_lt_of_lt_mul (by rw [Nat.mul_comm]; exact hk')
                have e := hzget (k / z.length) (k % z.length) hkd hkm
                rw [show k / z.length * z.length + k % z.length = k by rw [Nat.mul_comm]; exact Nat.div_add_mod k _] at e
                rw [hk] at e
                obtain ⟨v', k1, k2, k3⟩ := z7 w (fun _ => False) (k % z.length) _ (List.getElem?_eq_getElem hkm)
                rw [k1] at e
                injection e with e
                rw [e]; exact k2) (fun r hr => by rw [List.eq_of_mem_replicate hr, hbsz]) (fun i j r av hi hj => by
                have hi' := (List.getElem?_eq_some_iff.1 hi).1
                rw [List.length_replicate] at hi'
                have hr : r = z := List.eq_of_mem_replicate (List.mem_of_getElem? hi)
                subst hr
                have hj' := (List.getElem?_eq_some_iff.1 hj).1
                obtain ⟨v, k1, k2, k3⟩ := z7 w (Mu X β H) j av hj
                rw [hbsz, hzget i j hi' hj']
                exact ⟨v, k1, .deep k3, fun _ => k3⟩)
              refine ⟨w', β', ?_, ?_, ?_, rfl⟩
              · obtain ⟨m, rfl⟩ : ∃ m, len = m + 1 := ⟨len - 1, by omega⟩
                rw [← o2]
                simp [Builtin.clear_, run_underlying (elT_eq he), hzr, g1]
              · simpa using g2
              · simpa using g3
      · cases h
    · cases h
  · cases h
theorem mid_rows {rows ys : List (List AV)} {len i : Nat} {r : List AV} (h : len + ys.length ≤ rows.length) (hi : (rows.take len ++ ys ++ rows.drop (len + ys.length))[i]? = some r) : (i < len ∧ rows[i]? = some r) ∨ (len ≤ i ∧ i < len + ys.length ∧ ys[i - len]? = some r) ∨ (len + ys.length ≤ i ∧ rows[i]? = some r) := by
  have ht : (rows.take len).length = len := by rw [List.length_take]; omega
  rcases Nat.lt_or_ge i len with h1 | h1
  · rw [List.append_assoc, List.getElem?_append_left (by omega), List.getElem?_take, if_pos h1] at hi
    exact .inl ⟨h1, hi⟩
  · rcases Nat.lt_or_ge i (len + ys.length) with h2 | h2
    · rw [List.getElem?_append_left (by rw [List.length_append]; omega), List.getElem?_append_right (by omega), ht] at hi
      exact .inr (.inl ⟨h1, h2, hi⟩)
    · rw [List.getElem?_append_right (by rw [List.length_append]; omega), List.length_append, ht, List.getElem?_drop, show len + ys.length + (i - (len + ys.length)) = i by omega] at hi
      exact .inr (.inr ⟨h2, hi⟩)
theorem osl_own {l n sz : Nat} {b : Blk} {v : Value} (h : Rep w (Mu X β H) β H v (.osl l n sz 0 n)) (hb : H[l]? = some b) (hn : b.rows.length = n) (hs : b.sz = sz) (h0 : 0 < n) : Rep w (Mu X β H) β H v (.own l n) := by
  obtain ⟨a, cap, b', rfl, hb', k1, k2, k3, k4, k5⟩ := rep_osl h
  rw [hb] at hb'; injection hb' with hb'; subst hb'
  refine .own l n a cap b hb k1 (k3.imp Eq.symm id) (by omega) fun _ => ?_
  have hq := k5 hn hs
  cases hβ : β[l]? with
  | none => rw [hβ] at hq; exact hq.elim
  | some bi =>
    rw [hβ] at hq
    cases bi with
    | nil => obtain ⟨_, q2, _⟩ := hq; omega
    | lies bk c =>
      obtain ⟨q1, q2, q3⟩ := hq
      refine ⟨?_, by omega⟩
      rw [q3 (by omega), Nat.zero_mul]
theorem aself_sound (R : HRel w X β H) {t e : TypeId} {z : List AV} {l n sz len off' len' : Nat} {b : Blk} (he : elT C.P t = some e) (hz : zT C.P e = some z) (hb : H[l]? = some b) (c2 : b.mu = true) (c3 : b.e = e) (c4 : b.sz = szT C.P e) (c5 : sz = szT C.P e) (o1 : b.rows.length = n) (o2 : len + len' ≤ n)
    {vs vx : Value} (hs : Rep w (Mu X β H) β H vs (.osl l n sz 0 len)) (hx : Rep w (Mu X β H) β H vx (.osl l n (szT C.P e) off' len')) (ty : TypeId) :
    ∃ u w' β', (Builtin.append_ #[t, t] ty #[vs, vx]).run C.P w = .ok u w' ∧ HRel w' X β' (H.set l { b with rows := b.rows.take len ++ (b.rows.drop off').take len' ++ b.rows.drop (len + len') }) ∧ StepR w β H w' β' (H.set l { b with rows := b.rows.take len ++ (b.rows.drop off').take len' ++ b.rows.drop (len + len') }) ∧
      Rep w' (Mu X β' (H.set l { b with rows := b.rows.take len ++ (b.rows.drop off').take len' ++ b.rows.drop (len + len') })) β' (H.set l { b with rows := b.rows.take len ++ (b.rows.drop off').take len' ++ b.rows.drop (len + len') }) u (.osl l n sz 0 (len + len')) := by
  have hz0 : 0 < szT C.P e := by
    obtain ⟨i, zv, z1, z2, z3, z4, z5, z6, z7⟩ := zT_sound hz
    omega
  obtain ⟨xa0, xcap0, xb0, _, xhb, _, xle, _, _, _⟩ := rep_osl hx
  obtain ⟨xa, c, xval, rfl, hxr, hxl, hxv⟩ := src_rows (C := C) (e := e) (x := .osl l n (szT C.P e) off' len') (ob := b.rows.length = n) (ys := (b.rows.drop off').take len') (dp := b.deep) R (by simp only [hb, c4, and_self, if_true]) o1 hx
  have hyl : ((b.rows.drop off').take len').length = len' := by rw [List.length_take, List.length_drop]; omega
  generalize (b.rows.drop off').take len' = ys at hxr hxl hxv hyl ⊢
  subst hyl
  obtain ⟨a, cap, b', rfl, hb', k1, k2, k3, k4, k5⟩ := rep_osl hs
  rw [hb] at hb'; injection hb' with hb'; subst hb'
  have hq := k5 o1 (by rw [c4, c5])
  by_cases hm0 : ys.length = 0
  · have hy : ys = [] := List.length_eq_zero_iff.1 hm0
    subst hy
    have hbb : ({ b with rows := b.rows.take len ++ [] ++ b.rows.drop (len + 0) } : Blk) = b := by cases b; simp
    simp only [List.length_nil] at hbb ⊢
    rw [hbb, set_self hb]
    exact ⟨_, w, β, append_zero he hz0 (by omega), R, StepR.refl w β H R.len, hs⟩
  cases hβ : β[l]? with
  | none => rw [hβ] at hq; exact hq.elim
  | some bi =>
    rw [hβ] at hq
    have hB := R.blk l bi b hβ hb
    cases bi with
    | nil => have h2 : b.rows = [] := hB.1; rw [h2] at o1; simp at o1; omega
    | lies bk c0 =>
      obtain ⟨q1, q2, q3⟩ := hq
      obtain ⟨cur0, h1, h2, h3, h4, h5, h6, h7⟩ := hB
      have ha := q3 (by omega)
      rw [Nat.zero_mul] at ha
      subst ha
      obtain rfl : cap = c0 := by omega
      obtain ⟨i0, zv, z1, z2, z3, z4, z5, z6, z7⟩ := zT_sound hz
      have hisz : i0.size = szT C.P e := by rw [z3, z5]
      obtain ⟨xb, xoff, rfl, hxc⟩ := hxr hm0
      have hroom : len + ys.length ≤ cap := by omega
      have hfit : len * szT C.P e + (flatV xval ys.length (szT C.P e)).length ≤ cur0.size := by
        rw [flatV_length, h2, c4, ← Nat.add_mul]
        exact Nat.mul_le_mul_right _ hroom
      have hrun := run_append_room (P := C.P) w t ty e i0 (elT_eq he) z1 bk len cap cur0 (by rw [← c3]; exact h1) ⟨xb, xoff, none⟩ ys.length c (flatV xval ys.length (szT C.P e)) (by rw [flatV_length, hisz]) (fun j u hj => (flatV_mem hxc hj).1)
        (fun u hu => by obtain ⟨j, hj, rfl⟩ := List.getElem_of_mem hu; exact (flatV_mem hxc (List.getElem?_eq_getElem hj)).2) hroom (by rw [hisz]; exact hfit)
      rw [hisz] at hrun
      obtain ⟨cur', hcur', hget, hsize⟩ : ∃ cur', cur' = (cur0.toList.take (len * szT C.P e) ++ flatV xval ys.length (szT C.P e) ++ cur0.toList.drop (len * szT C.P e + (flatV xval ys.length (szT C.P e)).length)).toArray ∧
          (∀ k : Nat, cur'[k]? = if len * szT C.P e ≤ k ∧ k < len * szT C.P e + ys.length * szT C.P e then (flatV xval ys.length (szT C.P e))[k - len * szT C.P e]? else cur0[k]?) ∧ cur'.size = cur0.size :=
        ⟨_, rfl, fun k => by rw [mid_get _ _ _ _ hfit, flatV_length], mid_size _ _ _ hfit⟩
      rw [← hcur'] at hrun
      clear hcur'
      have hlen : (b.rows.take len ++ ys ++ b.rows.drop (len + ys.length)).length = b.rows.length := by
        rw [List.length_append, List.length_append, List.length_take, List.length_drop]; omega
      have hM : MutB β H bk := ⟨l, cap, b, hβ, hb, c2⟩
      have S := set_step (w := w) R hb hβ (.lies bk cap) { b with rows := b.rows.take len ++ ys ++ b.rows.drop (len + ys.length) } rfl rfl (by rw [hlen]; exact Nat.le_refl _) (fun _ => rfl) (fun h => h) (fun bk c e => .inr ⟨c, e⟩) (keeps_setRow w hM cur')
      refine ⟨_, _, β.set l (.lies bk cap), hrun, set_hrel R hb hβ _ _ S (fun l' bk' c hl hb' => setRow_other w bk bk' _ (fun e => hl (R.inj l' l bk' c cap hb' (e ▸ hβ)))) ?_ (fun bk' c e => ?_) (fun bk' c l' c' e hl hb' => ?_), S, ?_⟩
      · refine blk_new S (setRow_heap w bk cur0 _ b.e (0, 0) h1) (by rw [hsize, h2]) (by rw [hlen]; exact h3) h4 (by rw [c4]; exact hz0) (fun r hr' => ?_) (fun i j r av hi hj => ?_)
        · rcases List.mem_append.1 hr' with h | h
          · rcases List.mem_append.1 h with h | h
            · exact h6 r (List.mem_of_mem_take h)
            · rw [hxl r h, c4]
          · exact h6 r (List.mem_of_mem_drop h)
        · simp only [c4, hget]
          have hjl := (List.getElem?_eq_some_iff.1 hj).1
          rcases mid_rows (by omega) hi with ⟨h1', h2'⟩ | ⟨h1', h2', h3'⟩ | ⟨h1', h2'⟩
          · have hjl' : j < szT C.P e := by rw [← c4, ← h6 r (List.mem_of_getElem? h2')]; exact hjl
            have hlt : i * szT C.P e + j < len * szT C.P e := by
              have := Nat.mul_le_mul_right (szT C.P e) (show i + 1 ≤ len by omega)
              rw [Nat.add_mul] at this
              omega
            rw [if_neg (by omega)]
            obtain ⟨v, q1, q2, q3, q4⟩ := h7 i j r av h2' hj
            rw [c4] at q1
            exact ⟨v, q1, q2, q3, q4⟩
          · have hjl' : j < szT C.P e := by rw [← hxl r (List.mem_of_getElem? h3')]; exact hjl
            have hge : len * szT C.P e ≤ i * szT C.P e := Nat.mul_le_mul_right _ (by omega)
            have hsub : i * szT C.P e + j - len * szT C.P e = (i - len) * szT C.P e + j := by rw [Nat.sub_mul]; omega
            have hlt : (i - len) * szT C.P e + j < ys.length * szT C.P e := by
              have := Nat.mul_le_mul_right (szT C.P e) (show i - len + 1 ≤ ys.length by omega)
              rw [Nat.add_mul] at this
              omega
            rw [if_pos (by omega), hsub, flatV_get _ _ _ _ _ (by omega) hjl']
            refine ⟨_, rfl, (hxc _ j (by omega) hjl').2, ?_⟩
            exact hxv (i - len) j r av h3' hj
          · have hjl' : j < szT C.P e := by rw [← c4, ← h6 r (List.mem_of_getElem? h2')]; exact hjl
            have hge : (len + ys.length) * szT C.P e ≤ i * szT C.P e := Nat.mul_le_mul_right _ h1'
            rw [Nat.add_mul] at hge
            rw [if_neg (by omega)]
            obtain ⟨v, q1, q2, q3, q4⟩ := h7 i j r av h2' hj
            rw [c4] at q1
            exact ⟨v, q1, q2, q3, q4⟩
      · injection e with e1 e2
        subst e1
        exact ⟨Nat.lt_of_lt_of_le (R.lt l bk cap hβ).1 S.keeps.size, (R.lt l bk cap hβ).2⟩
      · injection e with e1 e2
        subst e1
        exact hl (R.inj l' l bk c' cap hb' hβ)
      · have hb2 : (H.set l { b with rows := b.rows.take len ++ ys ++ b.rows.drop (len + ys.length) })[l]? = some { b with rows := b.rows.take len ++ ys ++ b.rows.drop (len + ys.length) } := List.getElem?_set_self (List.getElem?_eq_some_iff.1 hb).1
        refine .osl l n sz 0 (len + ys.length) _ cap { b with rows := b.rows.take len ++ ys ++ b.rows.drop (len + ys.length) } hb2 (by rw [hlen]; exact k1) (by omega) (.inr ⟨_, rfl⟩) (by omega) fun _ _ => ?_
        rw [List.getElem?_set_self (List.getElem?_eq_some_iff.1 hβ).1]
        exact ⟨by omega, by omega, fun _ => by rw [Nat.zero_mul]⟩
theorem aappO_sound (R : HRel w X β H) {t : TypeId} {s x : AV} {ob : Prop} {r : AV} {H' : List Blk} (h : aappO C H t s x = some (ob, r, H')) (hob : ob) {vs vx : Value} (hs : Rep w (Mu X β H) β H vs s) (hx : Rep w (Mu X β H) β H vx x) (ty : TypeId) :
    ∃ u w' β', (Builtin.append_ #[t, t] ty #[vs, vx]).run C.P w = .ok u w' ∧ HRel w' X β' H' ∧ StepR w β H w' β' H' ∧ Rep w' (Mu X β' H') β' H' u r := by
  unfold aappO at h
  split at h
  case h_2 => exact aappend_sound R h hob hs hx ty
  rename_i l n sz off len
  split at h
  · cases h
  rename_i hoff
  have hoff : off = 0 := by omega
  subst hoff
  split at h
  · rename_i hln
    subst hln
    split at h
    · rename_i ob' r' H'' b hap hb
      injection h with h; injection h with e1 e2; injection e2 with e2 e3; subst e1 e2 e3
      obtain ⟨o1, o2, o3, o4⟩ := hob
      exact aappend_sound R hap o1 (osl_own hs hb o3 o4 o2) hx ty
    · cases h
  rename_i hln
  split at h
  case h_3 => cases h
  case h_2 =>
    rename_i e b l' n' sz' off' len' he hb
    split at h
    · cases h
    rename_i hz
    obtain ⟨z, hz⟩ : ∃ z, zT C.P e = some z := by cases hz' : zT C.P e <;> simp_all
    split at h
    case isFalse => cases h
    rename_i hc
    obtain ⟨rfl, rfl, rfl, c2, c3, c4, c5⟩ := hc
    injection h with h; injection h with e1 e2; injection e2 with e2 e3; subst e1 e2 e3
    exact aself_sound R he hz hb c2 c3 c4 c5 hob.1 hob.2 hs hx ty
  rename_i e b sx fx ys he hb
  split at h
  · cases h
  rename_i hz
  obtain ⟨z, hz⟩ : ∃ z, zT C.P e = some z := by cases hz' : zT C.P e <;> simp_all
  split at h
  case isFalse => cases h
  rename_i hc
  obtain ⟨c1, c2, c3, c4, c5⟩ := hc
  injection h with h; injection h with e1 e2; injection e2 with e2 e3; subst e1 e2 e3
  obtain ⟨o1, o2, o3⟩ := hob
  have hz0 : 0 < szT C.P e := by
    obtain ⟨i, zv, z1, z2, z3, z4, z5, z6, z7⟩ := zT_sound hz
    omega
  have hm0 : ys.length ≠ 0 := fun h => o2 (List.length_eq_zero_iff.1 h)
  obtain ⟨xa, c, xval, rfl, hxr, hxl, hxv⟩ := src_rows (C := C) (e := e) (x := .slice sx fx ys) (ob := True) (ys := ys) (dp := true) R (by simp only [if_pos c1]) trivial hx
  obtain ⟨a, cap, b', rfl, hb', k1, k2, k3, k4, k5⟩ := rep_osl hs
  rw [hb] at hb'; injection hb' with hb'; subst hb'
  have hq := k5 o1 (by rw [c4, c5])
  cases hβ : β[l]? with
  | none => rw [hβ] at hq; exact hq.elim
  | some bi =>
    rw [hβ] at hq
    have hB := R.blk l bi b hβ hb
    cases bi with
    | nil => have h2 : b.rows = [] := hB.1; rw [h2] at o1; simp at o1; omega
    | lies bk c0 =>
      obtain ⟨q1, q2, q3⟩ := hq
      obtain ⟨cur0, h1, h2, h3, h4, h5, h6, h7⟩ := hB
      have ha := q3 (by omega)
      rw [Nat.zero_mul] at ha
      subst ha
      obtain rfl : cap = c0 := by omega
      obtain ⟨i0, zv, z1, z2, z3, z4, z5, z6, z7⟩ := zT_sound hz
      have hisz : i0.size = szT C.P e := by rw [z3, z5]
      obtain ⟨xb, xoff, rfl, hxc⟩ := hxr hm0
      have hroom : len + ys.length ≤ cap := by omega
      have hfit : len * szT C.P e + (flatV xval ys.length (szT C.P e)).length ≤ cur0.size := by
        rw [flatV_length, h2, c4, ← Nat.add_mul]
        exact Nat.mul_le_mul_right _ hroom
      have hrun := run_append_room (P := C.P) w t ty e i0 (elT_eq he) z1 bk len cap cur0 (by rw [← c3]; exact h1) ⟨xb, xoff, none⟩ ys.length c (flatV xval ys.length (szT C.P e)) (by rw [flatV_length, hisz]) (fun j u hj => (flatV_mem hxc hj).1)
        (fun u hu => by obtain ⟨j, hj, rfl⟩ := List.getElem_of_mem hu; exact (flatV_mem hxc (List.getElem?_eq_getElem hj)).2) hroom (by rw [hisz]; exact hfit)
      rw [hisz] at hrun
      obtain ⟨cur', hcur', hget, hsize⟩ : ∃ cur', cur' = (cur0.toList.take (len * szT C.P e) ++ flatV xval ys.length (szT C.P e) ++ cur0.toList.drop (len * szT C.P e + (flatV xval ys.length (szT C.P e)).length)).toArray ∧
          (∀ k : Nat, cur'[k]? = if len * szT C.P e ≤ k ∧ k < len * szT C.P e + ys.length * szT C.P e then (flatV xval ys.length (szT C.P e))[k - len * szT C.P e]? else cur0[k]?) ∧ cur'.size = cur0.size :=
        ⟨_, rfl, fun k => by rw [mid_get _ _ _ _ hfit, flatV_length], mid_size _ _ _ hfit⟩
      rw [← hcur'] at hrun
      clear hcur'
      have hlen : (b.rows.take len ++ ys ++ b.rows.drop (len + ys.length)).length = b.rows.length := by
        rw [List.length_append, List.length_append, List.length_take, List.length_drop]; omega
      have hM : MutB β H bk := ⟨l, cap, b, hβ, hb, c2⟩
      have S := set_step (w := w) R hb hβ (.lies bk cap) { b with rows := b.rows.take len ++ ys ++ b.rows.drop (len + ys.length) } rfl rfl (by rw [hlen]; exact Nat.le_refl _) (fun _ => rfl) (fun h => h) (fun bk c e => .inr ⟨c, e⟩) (keeps_setRow w hM cur')
      refine ⟨_, _, β.set l (.lies bk cap), hrun, set_hrel R hb hβ _ _ S (fun l' bk' c hl hb' => setRow_other w bk bk' _ (fun e => hl (R.inj l' l bk' c cap hb' (e ▸ hβ)))) ?_ (fun bk' c e => ?_) (fun bk' c l' c' e hl hb' => ?_), S, ?_⟩
      · refine blk_new S (setRow_heap w bk cur0 _ b.e (0, 0) h1) (by rw [hsize, h2]) (by rw [hlen]; exact h3) h4 (by rw [c4]; exact hz0) (fun r hr' => ?_) (fun i j r av hi hj => ?_)
        · rcases List.mem_append.1 hr' with h | h
          · rcases List.mem_append.1 h with h | h
            · exact h6 r (List.mem_of_mem_take h)
            · rw [hxl r h, c4]
          · exact h6 r (List.mem_of_mem_drop h)
        · simp only [c4, hget]
          have hjl := (List.getElem?_eq_some_iff.1 hj).1
          rcases mid_rows (by omega) hi with ⟨h1', h2'⟩ | ⟨h1', h2', h3'⟩ | ⟨h1', h2'⟩
          · have hjl' : j < szT C.P e := by rw [← c4, ← h6 r (List.mem_of_getElem? h2')]; exact hjl
            have hlt : i * szT C.P e + j < len * szT C.P e := by
              have := Nat.mul_le_mul_right (szT C.P e) (show i + 1 ≤ len by omega)
              rw [Nat.add_mul] at this
              omega
            rw [if_neg (by omega)]
            obtain ⟨v, q1, q2, q3, q4⟩ := h7 i j r av h2' hj
            rw [c4] at q1
            exact ⟨v, q1, q2, q3, q4⟩
          · have hjl' : j < szT C.P e := by rw [← hxl r (List.mem_of_getElem? h3')]; exact hjl
            have hge : len * szT C.P e ≤ i * szT C.P e := Nat.mul_le_mul_right _ (by omega)
            have hsub : i * szT C.P e + j - len * szT C.P e = (i - len) * szT C.P e + j := by rw [Nat.sub_mul]; omega
            have hlt : (i - len) * szT C.P e + j < ys.length * szT C.P e := by
              have := Nat.mul_le_mul_right (szT C.P e) (show i - len + 1 ≤ ys.length by omega)
              rw [Nat.add_mul] at this
              omega
            rw [if_pos (by omega), hsub, flatV_get _ _ _ _ _ (by omega) hjl']
            refine ⟨_, rfl, (hxc _ j (by omega) hjl').2, ?_⟩
            have := hxv (i - len) j r av h3' hj
            exact ⟨this.1, fun hd => this.2 rfl⟩
          · have hjl' : j < szT C.P e := by rw [← c4, ← h6 r (List.mem_of_getElem? h2')]; exact hjl
            have hge : (len + ys.length) * szT C.P e ≤ i * szT C.P e := Nat.mul_le_mul_right _ h1'
            rw [Nat.add_mul] at hge
            rw [if_neg (by omega)]
            obtain ⟨v, q1, q2, q3, q4⟩ := h7 i j r av h2' hj
            rw [c4] at q1
            exact ⟨v, q1, q2, q3, q4⟩
      · injection e with e1 e2
        subst e1
        exact ⟨Nat.lt_of_lt_of_le (R.lt l bk cap hβ).1 S.keeps.size, (R.lt l bk cap hβ).2⟩
      · injection e with e1 e2
        subst e1
        exact hl (R.inj l' l bk c' cap hb' hβ)
      · have hb2 : (H.set l { b with rows := b.rows.take len ++ ys ++ b.rows.drop (len + ys.length) })[l]? = some { b with rows := b.rows.take len ++ ys ++ b.rows.drop (len + ys.length) } := List.getElem?_set_self (List.getElem?_eq_some_iff.1 hb).1
        have hR : Rep (w.setRow bk cur') (Mu X (β.set l (.lies bk cap)) (H.set l { b with rows := b.rows.take len ++ ys ++ b.rows.drop (len + ys.length) })) (β.set l (.lies bk cap)) (H.set l { b with rows := b.rows.take len ++ ys ++ b.rows.drop (len + ys.length) }) (.slice (some ⟨bk, 0, none⟩) (len + ys.length) cap) (.osl l n sz 0 (len + ys.length)) := by
          refine .osl l n sz 0 (len + ys.length) _ cap { b with rows := b.rows.take len ++ ys ++ b.rows.drop (len + ys.length) } hb2 (by rw [hlen]; exact k1) (by omega) (.inr ⟨_, rfl⟩) (by omega) fun _ _ => ?_
          rw [List.getElem?_set_self (List.getElem?_eq_some_iff.1 hβ).1]
          exact ⟨by omega, by omega, fun _ => by rw [Nat.zero_mul]⟩
        by_cases hfull : len + ys.length = n
        · rw [if_pos hfull, hfull]
          rw [hfull] at hR hb2
          exact osl_own hR hb2 (by show (b.rows.take len ++ ys ++ b.rows.drop n).length = n; rw [← hfull, hlen, o1, hfull]) (by show b.sz = sz; rw [c4, c5]) (by omega)
        · rw [if_neg hfull]; exact hR
theorem aptrSlice_sound (R : HRel w X β H) {t : TypeId} {len : Nat} {parts : List (Nat × AV)} {ob : Prop} {r : AV} {H' : List Blk} (h : aptrSlice C H t len parts = some (ob, r, H')) {vparts : Array (Nat × Value)} (hl : vparts.size = parts.length)
    (hv : ∀ (j k : Nat) (u : AV), parts[j]? = some (k, u) → ∃ v, vparts[j]? = some (k, v) ∧ Rep w (Mu X β H) β H v u) :
    ∃ u w' β', (Instr.buildSlice t len vparts).run C.P w = .ok u w' ∧ HRel w' X β' H' ∧ StepR w β H w' β' H' ∧ Rep w' (Mu X β' H') β' H' u r := by
  unfold aptrSlice at h
  split at h
  case h_2 => cases h
  rename_i e l n sz i f he
  split at h
  case isFalse => cases h
  rename_i hc
  obtain ⟨c1, c2, c3⟩ := hc
  injection h with h; injection h with e1 e2; injection e2 with e2 e3; subst e1 e2 e3 c3
  obtain ⟨z, hz⟩ : ∃ z, zT C.P e = some z := by cases hz' : zT C.P e <;> simp_all
  obtain ⟨i0, zv, z1, z2, z3, z4, z5, z6, z7⟩ := zT_sound hz
  have hzr : (zeroValue e).run C.P w = .ok zv w := by simp [zeroValue, typeInfo, z1, z2]
  have hsize := run_sizeOf (P := C.P) (t := e) (by omega) w
  obtain ⟨v, hv1, hv2⟩ := hv 0 0 _ rfl
  obtain ⟨a, b, rfl, hb, hn, hx⟩ := rep_ptr hv2
  have hvp : vparts.toList = [(0, .pointer (some a))] := by
    have h1 : vparts.toList.length = 1 := by rw [Array.length_toList, hl]; rfl
    have h2 : vparts.toList[0]? = some (0, .pointer (some a)) := by rw [Array.getElem?_toList]; exact hv1
    match hvl : vparts.toList, h1, h2 with
    | [x], _, h2 => simp at h2; rw [h2]
  have g1 : Instr.fill (fun k => some (k * szT C.P e, szT C.P e)) ((Array.range (1 * szT C.P e)).map fun x => zv.cells[x % zv.cells.size]!) vparts.toList = some #[.pointer (some a)] := by
    rw [hvp, c1]
    obtain ⟨x0, hx0⟩ : ∃ x0, (Array.range (1 * 1)).map (fun x => zv.cells[x % zv.cells.size]!) = #[x0] := ⟨zv.cells[0 % zv.cells.size]!, by
      apply Array.ext
      · simp
      · intro i h1 h2
        have : i = 0 := by simp at h1; omega
        subst this
        simp⟩
    rw [hx0]
    unfold Instr.fill
    simp [Instr.fill, Value.cells]
  have hrun : (Instr.buildSlice t 1 vparts).run C.P w = .ok (.slice (some ⟨w.heap.size, 0, none⟩) 1 1) (w.alloc (.cells #[.pointer (some a)] e)) := by
    have hno : ¬ 1 * szT C.P e > 2 ^ 24 := by rw [c1]; decide
    have h0 : ¬ 1 * szT C.P e = 0 := by rw [c1]; decide
    simp only [Instr.buildSlice, Sem.run_bind, run_underlying (elT_eq he), Result.andThen_ok, hsize, hno, if_false, h0, hzr, Sem.run_pure, g1, newRow, run_newObj]
    rfl
  have hk := Keeps.alloc (fun _ => False) w (.cells #[.pointer (some a)] e)
  have S := push_step R hk (.lies w.heap.size 1) ⟨e, 1, [[.ptr l n sz i f]], true, false⟩ (fun bk c e => by injection e with e _; omega)
  refine ⟨_, _, β ++ [.lies w.heap.size 1], hrun, push_hrel R hk _ _ (fun bk c e => by injection e with e _; omega) (fun bk c e => by injection e with e _; subst e; simp) ?_, S, ?_⟩
  · refine blk_new S (heap_alloc_new w _) rfl (Nat.le_refl _) (by unfold maxLen; omega) Nat.one_pos (fun r hr => by rw [List.mem_singleton.1 hr]; rfl) (fun i' j' r av hi hj => ?_)
    match i', hi with
    | 0, hi =>
      simp at hi
      subst hi
      match j', hj with
      | 0, hj =>
        simp at hj
        subst hj
        exact ⟨.pointer (some a), rfl, rfl, hv2, fun h => by cases h⟩
      | j' + 1, hj => simp at hj
    | i' + 1, hi => simp at hi
  · refine .own H.length 1 _ 1 _ (getElem?_snoc_new H _) (Nat.le_refl _) (.inr ⟨_, rfl⟩) (Nat.le_refl _) fun _ => ?_
    rw [← R.len, getElem?_snoc_new]
    exact ⟨rfl, rfl⟩
theorem run_copy_gen {P : Program} (w : World) (dT sT ty elem : TypeId) (d : Addr) (dLen dCap : Nat) (a : Addr) (sLen sCap : Nat) (cs : List Value) (hu : P.underlying dT = some (.slice elem)) (hs : 0 < szT P elem)
    (hn : cs.length = Nat.min sLen dLen * szT P elem) (hsrc : ∀ j v, cs[j]? = some v → w.cell? (a.add j) = some v) {w' : World} (hst : (storeCells d cs).run P w = .ok () w') :
    (Builtin.copy_ #[dT, sT] ty #[.slice (some d) dLen dCap, .slice (some a) sLen sCap]).run P w = .ok (goInt (Nat.min sLen dLen)) w' := by
  have hl := run_loadCells_list (P := P) w a cs hsrc
  rw [hn] at hl
  simp [Builtin.copy_, run_underlying hu, Builtin.lenOf, Builtin.firstCells, run_sizeOf hs, hl, hst]
theorem run_copy_zero {P : Program} (w : World) (dT sT ty elem : TypeId) (d a : Option Addr) (dLen dCap sLen sCap : Nat) (hu : P.underlying dT = some (.slice elem)) (hs : 0 < szT P elem) (hn : Nat.min sLen dLen = 0) :
    (Builtin.copy_ #[dT, sT] ty #[.slice d dLen dCap, .slice a sLen sCap]).run P w = .ok (.int .i64 0) w := by
  have hl : ∀ a : Addr, (loadCells a 0).run P w = .ok #[] w := fun a => by have := run_loadCells_list (P := P) w a [] (fun j v h => by simp at h); simpa using this
  cases d <;> cases a <;> simp [Builtin.copy_, run_underlying hu, Builtin.lenOf, Builtin.firstCells, run_sizeOf hs, hn, hl, storeCells, goInt]
theorem adst_at {e : TypeId} {s : AV} {l n off len : Nat} (h : adst C e s = some (l, n, off, len)) {vs : Value} (hs : Rep w (Mu X β H) β H vs s) {b : Blk} (hb : H[l]? = some b) (hn : b.rows.length = n) (hsz : b.sz = szT C.P e) :
    ∃ a cap, vs = .slice a len cap ∧ off + len ≤ n ∧ (0 < len → ∃ bk c, β[l]? = some (BI.lies bk c) ∧ a = some ⟨bk, off * b.sz, none⟩) := by
  unfold adst at h
  split at h
  · rename_i l' n'
    injection h with h; injection h with e1 h; injection h with e2 h; injection h with e3 e4; subst e1 e2 e3 e4
    obtain ⟨a, cap, b', rfl, hb', k1, k2, k3⟩ := rep_own hs
    rw [hb] at hb'; injection hb' with hb'; subst hb'
    refine ⟨a, cap, rfl, by omega, fun h0 => ?_⟩
    have hx := k3 hn
    cases hβ : β[l']? with
    | none => rw [hβ] at hx; exact hx.elim
    | some bi =>
      rw [hβ] at hx
      cases bi with
      | nil => have := hx.1; omega
      | lies bk c => exact ⟨bk, c, rfl, by rw [hx.1, Nat.zero_mul]⟩
  · rename_i l' n' sz' off' len'
    split at h
    · rename_i hc
      injection h with h; injection h with e1 h; injection h with e2 h; injection h with e3 e4; subst e1 e2 e3 e4
      obtain ⟨a, cap, b', rfl, hb', k1, k2, k3, k4, k5⟩ := rep_osl hs
      rw [hb] at hb'; injection hb' with hb'; subst hb'
      refine ⟨a, cap, rfl, k2, fun h0 => ?_⟩
      have hx := k5 hn (by rw [hsz, hc])
      cases hβ : β[l']? with
      | none => rw [hβ] at hx; exact hx.elim
      | some bi =>
        rw [hβ] at hx
        cases bi with
        | nil => have := hx.2.1; omega
        | lies bk c =>
          obtain ⟨q1, q2, q3⟩ := hx
          exact ⟨bk, c, rfl, by rw [q3 (by omega), hsz, hc]⟩
    · cases h
  · cases h
theorem acopy_sound (R : HRel w X β H) {t : TypeId} {s x : AV} {ob : Prop} {r : AV} {H' : List Blk} (h : acopy C H t s x = some (ob, r, H')) (hob : ob) {vs vx : Value} (hs : Rep w (Mu X β H) β H vs s) (hx : Rep w (Mu X β H) β H vx x) (ty : TypeId) :
    ∃ u w' β', (Builtin.copy_ #[t, t] ty #[vs, vx]).run C.P w = .ok u w' ∧ HRel w' X β' H' ∧ StepR w β H w' β' H' ∧ Rep w' (Mu X β' H') β' H' u r := by
  unfold acopy at h
  split at h
  case h_2 => cases h
  rename_i e he
  split at h
  · cases h
  rename_i hz0
  have hz0 : 0 < szT C.P e := by omega
  split at h
  case h_2 => cases h
  rename_i ob1 ys dp l n off len hsr hds
  split at h
  case h_2 => cases h
  rename_i b hb
  split at h
  case isFalse => cases h
  rename_i hc
  obtain ⟨hmu, hsz⟩ := hc
  injection h with h; injection h with e1 e2; injection e2 with e2 e3; subst e1 e2 e3
  obtain ⟨o1, o2⟩ := hob
  obtain ⟨xa, c, xval, rfl, hxr, hxl, hxv⟩ := src_rows (C := C) (e := e) R hsr o1 hx
  obtain ⟨a, cap, rfl, hle, hat⟩ := adst_at (C := C) hds hs hb o2 hsz
  have hzr : ∀ (w' : World) (β' : List BI) (H' : List Blk), Rep w' (Mu X β' H') β' H' (goInt (Nat.min ys.length len)) (.int .i64 (min ys.length len : Nat)) := fun _ _ _ => .deep (.int _ _)
  have hlt : l < H.length := (List.getElem?_eq_some_iff.1 hb).1
  rcases Nat.eq_zero_or_pos (min ys.length len) with h0 | h0
  · have hrun := run_copy_zero (P := C.P) w t t ty e a xa len cap ys.length c (elT_eq he) hz0 h0
    have htk : ys.take len = [] := by
      rcases Nat.eq_zero_or_pos len with h | h
      · rw [h]; rfl
      · have : ys = [] := List.length_eq_zero_iff.1 (by omega)
        rw [this, List.take_nil]
    have hbb : ({ b with rows := b.rows.take off ++ ys.take len ++ b.rows.drop (off + min ys.length len), deep := b.deep && dp } : Blk) = { b with deep := b.deep && dp } := by
      rw [htk, h0]
      simp
    rw [hbb]
    have hβ : ∃ bi, β[l]? = some bi := by
      have : l < β.length := by rw [R.len]; exact hlt
      exact ⟨_, List.getElem?_eq_getElem this⟩
    obtain ⟨bi, hβ⟩ := hβ
    have hB := R.blk l bi b hβ hb
    have S := set_step (w := w) (w' := w) R hb hβ bi { b with deep := b.deep && dp } rfl rfl (Nat.le_refl _) (fun _ => rfl) (fun h => h) (fun bk c e => .inr ⟨c, e⟩) (Keeps.refl _ _)
    refine ⟨_, w, β.set l bi, hrun, set_hrel R hb hβ _ _ S (fun _ _ _ _ _ => rfl) ?_ (fun bk c e => by subst e; exact R.lt l bk c hβ) (fun bk c l' c' e hl hb' => by subst e; exact hl (R.inj l' l bk c' c hb' hβ)), S, by rw [h0]; exact .deep (.int _ _)⟩
    cases bi with
    | nil => exact hB
    | lies bk c =>
      obtain ⟨cur, h1, h2, h3, h4, h5, h6, h7⟩ := hB
      refine ⟨cur, h1, h2, h3, h4, h5, h6, fun i j r av hr hj => ?_⟩
      obtain ⟨v, q1, q2, q3, q4⟩ := h7 i j r av hr hj
      refine ⟨v, q1, q2, q3.keep S, fun hd => ?_⟩
      simp only [Bool.and_eq_true] at hd
      exact (q4 hd.1).keep (fun b hb hn => S.keeps.block b hb (fun hm => hn (.inr hm))) S.keeps.size (fun b hb => S.mu b hb)
  · obtain ⟨bk, c0, hβ, rfl⟩ := hat (by omega)
    obtain ⟨xb, xoff, rfl, hxc⟩ := hxr (by omega)
    have hkl : (ys.take len).length = min ys.length len := by rw [List.length_take]; omega
    have hxc' : ∀ i j, i < min ys.length len → j < szT C.P e → w.cell? ⟨xb, xoff + i * szT C.P e + j, none⟩ = some (xval i j) ∧ (xval i j).oneCell' = true := fun i j hi hj => hxc i j (by omega) hj
    obtain ⟨w', β', g1, g2, g3⟩ := write_rows (C := C) R hb hβ hmu off (ys.take len) (flatV xval (min ys.length len) (szT C.P e)) dp (by rw [hkl]; omega) (by rw [flatV_length, hkl, hsz]) (fun v hv => by
      obtain ⟨k, hk, rfl⟩ := List.getElem_of_mem hv
      exact (flatV_mem hxc' (List.getElem?_eq_getElem hk)).2) (fun r hr => by rw [hsz]; exact hxl r (List.mem_of_mem_take hr)) (fun i j r av hi hj => by
      have hil := (List.getElem?_eq_some_iff.1 hi).1
      rw [hkl] at hil
      rw [List.getElem?_take] at hi
      split at hi
      · have hjl := (List.getElem?_eq_some_iff.1 hj).1
        rw [hxl r (List.mem_of_getElem? hi)] at hjl
        rw [hsz, flatV_get _ _ _ _ _ hil hjl]
        obtain ⟨q1, q2⟩ := hxv i j r av hi hj
        exact ⟨_, rfl, q1, q2⟩
      · cases hi)
    rw [hkl] at g2 g3
    refine ⟨_, w', β', run_copy_gen (P := C.P) w t t ty e ⟨bk, off * b.sz, none⟩ len cap ⟨xb, xoff, none⟩ ys.length c (flatV xval (min ys.length len) (szT C.P e)) (elT_eq he) hz0 (by rw [flatV_length]) (fun j u hj => (flatV_mem hxc' hj).1) g1, g2, g3, hzr _ _ _⟩
end
end Go.Proofs.YtgjljfbohpnfcaaGreat
namespace Go.Proofs.YtgjljfbohpnfcaaGreat
open Go.RowKit
section
variable {C : Ctx} {w w' : World} {X Y : Nat → Prop} {β : List BI} {H : List Blk}
theorem rep_deepArg {v : Value} {av : AV} (hd : av.deepArg = true) (h : Rep w X β H v av) : RepD w X v av := by
  cases av with
  | agg cells =>
    obtain ⟨cs, val, rfl, hl, hm, hv⟩ := rep_agg h
    refine .agg cs cells val hl hm fun j u hu => rep_deep (List.all_eq_true.1 hd u (List.mem_of_getElem? hu)) (hv j u hu)
  | fn f cells =>
    obtain ⟨cs, val, rfl, hl, hm, hv⟩ := rep_fn h
    refine .fn f cs cells val hl hm fun j u hu => rep_deep (List.all_eq_true.1 hd u (List.mem_of_getElem? hu)) (hv j u hu)
  | own => cases hd
  | osl => cases hd
  | ptr => cases hd
  | tup => cases hd
  | _ => exact rep_deep rfl h
theorem view_isDeep {v : AV} (h : v.isDeep = true) (d : Nat) : view H d v = v := by
  cases d with
  | zero => simp [view, h]
  | succ d => cases v <;> first | rfl | cases h
theorem map_view_deep (d : Nat) : ∀ (l : List AV), l.all AV.isDeep = true → l.map (view H d) = l
  | [], _ => rfl
  | v :: r, h => by
    simp only [List.all_cons, Bool.and_eq_true] at h
    simp [view_isDeep h.1, map_view_deep d r h.2]
theorem view_deepArg {v : AV} (h : v.deepArg = true) (d : Nat) : view H (d + 1) v = v := by
  cases v with
  | agg cs => simp only [view, map_view_deep d cs h]
  | fn f cs => simp only [view, map_view_deep d cs h]
  | own => cases h
  | osl => cases h
  | ptr => cases h
  | tup => cases h
  | _ => rfl
theorem flat1_any {v : Value} {r : AV} (hf : r.flat1 = true) (h : RepD w X v r) : RepD w Y v r := by
  cases r with
  | bool b => cases h; exact .bool _
  | int k n => cases h; exact .int _ _
  | str s => cases h; exact .str _
  | nilptr => cases h; exact .nilptr
  | _ => cases hf
theorem flatAgg_any {v : Value} {cs : List AV} (hf : cs.all AV.flat1 = true) (h : RepD w X v (.agg cs)) : RepD w Y v (.agg cs) := by
  cases h with
  | agg asq _ val hl hm hv => exact .agg asq cs val hl hm fun j u hu => flat1_any (List.all_eq_true.1 hf u (List.mem_of_getElem? hu)) (hv j u hu)
theorem flat_any {v : Value} {r : AV} (hf : r.isFlat = true) (h : RepD w X v r) : RepD w Y v r := by
  cases r with
  | agg cs => exact flatAgg_any hf h
  | tup cs =>
    cases h with
    | tup asq _ val hl hm hv =>
      refine .tup asq cs val hl hm fun j u hu => ?_
      have h1 := List.all_eq_true.1 hf u (List.mem_of_getElem? hu)
      have h2 := hv j u hu
      cases u with
      | agg ds => exact flatAgg_any h1 h2
      | _ => exact flat1_any h1 h2
  | bool b => exact flat1_any rfl h
  | int k n => exact flat1_any rfl h
  | str s => exact flat1_any rfl h
  | nilptr => exact flat1_any rfl h
  | _ => cases hf
theorem target_sound {a : Act} {ρ : List (Nat × AV)} (T : TRel w X β H a ρ) (G : GRel C w X) {c : Call} {f : FuncId} {avs : List AV} (h : target C ρ c = some (f, avs)) :
    ∃ args : Array Value, (∀ (ty : TypeId), (do let d ← resolve a.eval c ty; invoke d.target d.args : Sem Next).run C.P w = (callFunc f args).run C.P w) ∧ args.size = avs.length ∧ ∀ (j : Nat) (u : AV), avs[j]? = some u → ∃ v, args[j]? = some v ∧ Rep w X β H v u := by
  unfold target at h
  split at h
  · rename_i op hop
    have hx := aev_sound T G 0 op
    split at h
    · rename_i g cap hg
      injection h with h; injection h with e1 e2; subst e1 e2
      rw [hg] at hx
      obtain ⟨cs, val, h1, hl, hm, hv⟩ := rep_fn hx
      obtain ⟨callee, cargs, ctypes⟩ := c
      simp only at hop
      subst hop
      refine ⟨cargs.map a.eval ++ cs, fun ty => ?_, by simp [argAVs_length, hl], fun j u hu => ?_⟩
      · simp [resolve, h1, Deferred.ofValue, invoke]
      · rcases Nat.lt_or_ge j cargs.size with hj | hj
        · rw [List.getElem?_append_left (by rw [argAVs_length]; simpa using hj)] at hu
          obtain ⟨x, k1, k2⟩ := argAVs_sound T G _ _ j u hu
          refine ⟨a.eval x, ?_, k2⟩
          rw [Array.getElem?_append_left (by simpa using hj)]
          simp only [Array.getElem?_toList] at k1
          simp [k1]
        · rw [List.getElem?_append_right (by rw [argAVs_length]; simpa using hj), argAVs_length] at hu
          simp only [Array.length_toList] at hu
          refine ⟨val (j - cargs.size), ?_, hv _ u hu⟩
          rw [Array.getElem?_append_right (by simpa using hj)]
          simp only [Array.size_map]
          exact hm _ (List.getElem?_eq_some_iff.1 hu).1
    · cases h
  · cases h
theorem run_callFunc {P : Program} {f : FuncId} {fn : Func} (hf : P.funcs[f]? = some fn) (hn : fn.name ≠ "runtime.NumGoroutine") (hb : fn.body.isSome = true) (args : Array Value) (w : World) : (callFunc f args).run P w = .ok (.enter f args) w := by
  have h3 : fn.body ≠ none := by cases h : fn.body <;> simp_all
  simp [callFunc, run_program, hf, hn, h3]
def After (X : Nat → Prop) (w : World) (β : List BI) (H : List Blk) (r : AV) (H' : List Blk) (o : Oper) (a : Act) (K : Act → World → Prop) : Prop :=
  ∀ (u : Value) (w' : World) (β' : List BI), HRel w' X β' H' → StepR w β H w' β' H' → Rep w' (Mu X β' H') β' H' u r → K (a.put o.dst u) w'
theorem wp_value {o : Oper} {a : Act} {K : Act → World → Prop} {Q : Exit → Act → World → Prop} {u : Value} (h : (execOp a.eval o).run C.P w = .ok (.value u) w') (hK : K (a.put o.dst u) w') : o.wp C.P a w K Q := by
  unfold Oper.wp
  rw [h]
  exact hK
theorem wp_enter {o : Oper} {a : Act} {K : Act → World → Prop} {Q : Exit → Act → World → Prop} {f : FuncId} {args : Array Value} (h : (execOp a.eval o).run C.P w = .ok (.enter f args) w)
    (hK : Calls C.P f args w fun e w' => ∃ v, e = .returned v ∧ K (a.put o.dst v) w') : o.wp C.P a w K Q := by
  unfold Oper.wp
  rw [h]
  exact hK.mono fun e w' ⟨v, he, hk⟩ => by subst he; exact hk
theorem ext_call (R : HRel w X β H) {f : FuncId} {p : List AV → Option (Prop × AV)} (hx : ExtOK C.P f p) {args : Array Value} {avs : List AV} (hsz : args.size = avs.length) (harg : ∀ (j : Nat) (u : AV), avs[j]? = some u → ∃ v, args[j]? = some v ∧ Rep w (Mu X β H) β H v u)
    {ob : Prop} {r : AV} (hp : p (avs.map (view H 6)) = some (ob, r)) (hob : ob) (hfd : (r.isFlat || avs.all AV.deepArg) = true) : ∃ v, (callFunc f args).run C.P w = .ok (.value v) w ∧ Rep w (Mu X β H) β H v r := by
  simp only [Bool.or_eq_true] at hfd
  by_cases hda : avs.all AV.deepArg = true
  · obtain ⟨v, h1, h2⟩ := hx w (Mu X β H) args (avs.map (view H 6)) ob r (by simp [hsz]) (fun j u hu => by
      rw [List.getElem?_map] at hu
      simp only [Option.map_eq_some_iff] at hu
      obtain ⟨av, hav, rfl⟩ := hu
      have hdd := List.all_eq_true.1 hda av (List.mem_of_getElem? hav)
      obtain ⟨v, k1, k2⟩ := harg j av hav
      rw [view_deepArg hdd]
      exact ⟨v, k1, rep_deepArg hdd k2⟩) hp hob
    exact ⟨v, h1, .deep h2⟩
  · have hfl := hfd.resolve_right hda
    obtain ⟨v, h1, h2⟩ := hx w X args (avs.map (view H 6)) ob r (by simp [hsz]) (fun j u hu => by
      rw [List.getElem?_map] at hu
      simp only [Option.map_eq_some_iff] at hu
      obtain ⟨av, hav, rfl⟩ := hu
      obtain ⟨v, k1, k2⟩ := harg j av hav
      exact ⟨v, k1, (view_sound R (fun _ => True) 6 k2 (fun _ _ => trivial)).mono fun b _ hb => .inl hb⟩) hp hob
    exact ⟨v, h1, .deep (flat_any hfl h2)⟩
theorem astep_sound (hS : SigOK C) {a : Act} {st : ASt} (R : HRel w X β st.H) (T : TRel w (Mu X β st.H) β st.H a st.ρ) (G : GRel C w (Mu X β st.H)) {o : Oper} {ob : Prop} {r : AV} {H' : List Blk} (h : astep C st o = some (ob, r, H')) (hob : ob)
    {K : Act → World → Prop} {Q : Exit → Act → World → Prop} (hK : After X w β st.H r H' o a K) : o.wp C.P a w K Q := by
  have quiet : ∀ {u : Value} {w' : World}, (execOp a.eval o).run C.P w = .ok (.value u) w' → Keeps (fun _ => False) w w' → H' = st.H → Rep w' (Mu X β st.H) β st.H u r → o.wp C.P a w K Q := by
    intro u w' h1 h2 h3 h4
    subst h3
    exact wp_value h1 (hK u w' β (R.quiet h2) (StepR.quiet h2 R.len) h4)
  have E := fun t x => aev_sound (C := C) T G t x
  unfold astep at h
  split at h
  · rename_i hkd
    clear hkd
    split at h
    · rename_i ob' v hp
      injection h with h; injection h with e1 e2; injection e2 with e2 e3; subst e1 e2
      obtain ⟨u, w', h1, h2, h3⟩ := apure_sound T G R.mu_lt hp hob
      exact quiet h1 h2 e3.symm h3
    · cases h
  · rename_i hkd
    clear hkd
    split at h
    · rename_i ob' v hr
      injection h with h; injection h with e1 e2; injection e2 with e2 e3; subst e1 e2
      obtain ⟨dst, op, type, pos, after, guard⟩ := o
      unfold aread at hr
      simp only at hr
      split at hr
      · rename_i t p
        obtain ⟨u, h1, h2⟩ := aload_sound R hr hob (E _ p)
        exact quiet (w' := w) (by simp only [execOp, Sem.run_bind, h1, Result.andThen_ok, Sem.run_pure]) (Keeps.refl _ _) e3.symm h2
      · rename_i t len parts
        split at hr
        · rename_i hd
          cases he : elT C.P t with
          | none => simp [abuildSlice, he] at hr
          | some e =>
            obtain ⟨u, w', h1, h2, h3⟩ := abuildSlice_sound (w := w) (Y := Mu X β st.H) hr (vparts := parts.map fun (i, x) => (i, a.eval x)) (by simp [elParts, he]) (fun j k u hj => by
              have hmem := List.mem_of_getElem? hj
              have hd' := List.all_eq_true.1 hd _ hmem
              simp only [elParts, he, List.getElem?_map, Option.map_eq_some_iff] at hj
              obtain ⟨⟨k', x⟩, hj1, hj2⟩ := hj
              injection hj2 with hj2 hj3
              simp only at hj2 hj3
              subst hj2 hj3
              simp only [Array.getElem?_toList] at hj1
              exact ⟨a.eval x, by simp [hj1], rep_deepArg hd' (E _ x)⟩) R.mu_lt
            exact quiet (by simp only [execOp, Sem.run_bind, h1, Result.andThen_ok, Sem.run_pure]) h2 e3.symm (.deep h3)
        · cases hr
      · rename_i src dst' x
        obtain ⟨u, h1, h2⟩ := abytesStr_sound R hr hob (E _ x)
        exact quiet (w' := w) (by simp only [execOp, Sem.run_bind, h1, Result.andThen_ok, Sem.run_pure]) (Keeps.refl _ _) e3.symm h2
      · rename_i c
        split at hr
        · rename_i f avs htg
          split at hr
          · rename_i p hp
            have hok := hS f
            rw [hp] at hok
            obtain ⟨args, hrun, hsz, harg⟩ := target_sound T G htg
            unfold acallPure at hr
            split at hr
            · rename_i ob1 r1 hpr
              split at hr
              · rename_i hfd
                injection hr with hr; injection hr with e1 e2; subst e1 e2
                rcases hok with hok | hx
                case' inr =>
                  obtain ⟨v, v1, v2⟩ := ext_call R hx hsz harg hpr hob hfd
                  exact quiet (w' := w) (by simp only [execOp]; rw [hrun type, v1]) (Keeps.refl _ _) e3.symm v2
                obtain ⟨hok, fn, hf1, hf2, hf3⟩ := hok
                have hrun' : (execOp a.eval { dst, op := .call c, type, pos, after, guard : Oper }).run C.P w = .ok (.enter f args) w := by
                  simp only [execOp]
                  rw [hrun type, run_callFunc hf1 hf2 hf3]
                refine wp_enter hrun' ?_
                simp only [Bool.or_eq_true] at hfd
                by_cases hda : avs.all AV.deepArg = true
                · have := hok w (Mu X β st.H) args (avs.map (view st.H 6)) ob1 r1 R.mu_lt G (by simp [hsz]) (fun j u hu => by
                    rw [List.getElem?_map] at hu
                    simp only [Option.map_eq_some_iff] at hu
                    obtain ⟨av, hav, rfl⟩ := hu
                    have hdd := List.all_eq_true.1 hda av (List.mem_of_getElem? hav)
                    obtain ⟨v, k1, k2⟩ := harg j av hav
                    rw [view_deepArg hdd]
                    exact ⟨v, k1, rep_deepArg hdd k2⟩) hpr hob
                  refine this.mono fun e w' ⟨v, he, hk, hv⟩ => ⟨v, he, ?_⟩
                  subst e3
                  exact hK v w' β (R.quiet hk) (StepR.quiet hk R.len) (.deep hv)
                · have hfl := hfd.resolve_right hda
                  have := hok w X args (avs.map (view st.H 6)) ob1 r1 R.base (fun g => (G g).mono fun b _ hb => .inl hb) (by simp [hsz]) (fun j u hu => by
                    rw [List.getElem?_map] at hu
                    simp only [Option.map_eq_some_iff] at hu
                    obtain ⟨av, hav, rfl⟩ := hu
                    obtain ⟨v, k1, k2⟩ := harg j av hav
                    exact ⟨v, k1, (view_sound R (fun _ => True) 6 k2 (fun _ _ => trivial)).mono fun b _ hb => .inl hb⟩) hpr hob
                  refine this.mono fun e w' ⟨v, he, hk, hv⟩ => ⟨v, he, ?_⟩
                  subst e3
                  exact hK v w' β (R.quiet hk) (StepR.quiet hk R.len) (.deep (flat_any hfl hv))
              · cases hr
            · cases hr
          · cases hr
        · cases hr
      · cases hr
    · cases h
  · rename_i hkd
    clear hkd
    obtain ⟨dst, op, type, pos, after, guard⟩ := o
    unfold aeff at h
    simp only at h
    split at h
    · rename_i t
      cases hz : zT C.P t with
      | none => rw [hz] at h; simp [anew] at h
      | some z =>
        rw [hz] at h
        obtain ⟨i, zv, z1, z2, z3, z4, z5, z6, z7⟩ := zT_sound hz
        obtain ⟨β', h1, h2, h3⟩ := anew_sound R h (zT_crep z6 z7)
        refine wp_value (u := .pointer (some ⟨w.heap.size, 0, none⟩)) (w' := w.alloc (.cells zv.cells t)) ?_ (hK _ _ β' h1 h2 h3)
        simp [execOp, Instr.alloc, zeroValue, typeInfo, z1, z2, newVar, newRow]
    · rename_i t x
      cases hc : cellsOf C t (aev C st.ρ t x) with
      | none => rw [hc] at h; simp [anew] at h
      | some cs =>
        rw [hc] at h
        obtain ⟨c1, _⟩ := cellsOf_sound hc (E t x)
        obtain ⟨β', h1, h2, h3⟩ := anew_sound R h c1
        refine wp_value (u := .pointer (some ⟨w.heap.size, 0, none⟩)) (w' := w.alloc (.cells (a.eval x).cells t)) ?_ (hK _ _ β' h1 h2 h3)
        simp [execOp, Instr.box, newVar, newRow]
    · rename_i t p x
      obtain ⟨w', β', h1, h2, h3, rfl⟩ := astore_sound R h hob (E 0 p) (E t x)
      unfold Oper.wp
      simp only [execOp, Sem.run_bind, h1, Result.andThen_ok, Sem.run_pure]
      exact hK undef w' β' h2 h3 (.tup #[] [] (fun _ => undef) rfl (fun j hj => by simp at hj) (fun j v hj => by simp at hj))
    · rename_i t len parts
      split at h
      · cases he : elT C.P t with
        | none => simp [aptrSlice, he] at h
        | some e =>
          obtain ⟨u, w', β', h1, h2, h3, h4⟩ := aptrSlice_sound R h (vparts := parts.map fun (i, x) => (i, a.eval x)) (by simp [elParts, he]) (fun j k u hj => by
            simp only [elParts, he, List.getElem?_map, Option.map_eq_some_iff] at hj
            obtain ⟨⟨k', x⟩, hj1, hj2⟩ := hj
            injection hj2 with hj2 hj3
            simp only at hj2 hj3
            subst hj2 hj3
            simp only [Array.getElem?_toList] at hj1
            exact ⟨a.eval x, by simp [hj1], E _ x⟩)
          exact wp_value (by simp only [execOp, Sem.run_bind, h1, Result.andThen_ok, Sem.run_pure]) (hK u w' β' h2 h3 h4)
      split at h
      · rename_i ob' v hb
        injection h with h; injection h with e1 e2; injection e2 with e2 e3; subst e1 e2 e3
        cases he : elT C.P t with
        | none => simp [abuildSlice, he] at hb
        | some e =>
          have L : ∀ l, l ∈ (elParts C st.ρ t parts.toList).flatMap (fun p => reach st.H 6 p.2) ↔ l ∈ (elParts C st.ρ t parts.toList).flatMap (fun p => reach st.H 6 p.2) := fun _ => Iff.rfl
          generalize hls : (elParts C st.ρ t parts.toList).flatMap (fun p => reach st.H 6 p.2) = ls at *
          obtain ⟨u, w', h1, h2, h3⟩ := abuildSlice_sound (w := w) (Y := XL X β st.H (fun l => l ∈ ls)) hb (vparts := parts.map fun (i, x) => (i, a.eval x)) (by simp [elParts, he]) (fun j k u hj => by
            rw [List.getElem?_map] at hj
            simp only [Option.map_eq_some_iff] at hj
            obtain ⟨⟨k0, av⟩, hj0, hj2⟩ := hj
            have hmem := List.mem_of_getElem? hj0
            injection hj2 with hj2 hj3
            simp only at hj2 hj3
            subst hj2 hj3
            have hj1 := hj0
            simp only [elParts, he, List.getElem?_map, Option.map_eq_some_iff] at hj1
            obtain ⟨⟨k', x⟩, hj1, hj2⟩ := hj1
            injection hj2 with hj2 hj3
            simp only at hj2 hj3
            subst hj2 hj3
            simp only [Array.getElem?_toList] at hj1
            refine ⟨a.eval x, by simp [hj1], view_sound R _ 6 (E _ x) fun l hl => ?_⟩
            rw [← hls]
            exact List.mem_flatMap.2 ⟨_, hmem, hl⟩) (fun b hb => R.mu_lt b (XL_mu hb))
          have R' := frz_hrel R ls
          refine wp_value (u := u) (w' := w') (by simp only [execOp, Sem.run_bind, h1, Result.andThen_ok, Sem.run_pure]) (hK u w' β (R'.quiet h2) ((frz_step R ls).trans (StepR.quiet h2 R'.len)) (.deep (h3.mono fun b _ hb => XL_frz hb)))
      · cases h
    · rename_i t l c
      obtain ⟨u, w', β', h1, h2, h3, h4⟩ := amake_sound R h hob (E 0 l) (E 0 c)
      exact wp_value (by simp only [execOp, Sem.run_bind, h1, Result.andThen_ok, Sem.run_pure]) (hK u w' β' h2 h3 h4)
    · rename_i c
      split at h
      · obtain ⟨callee, cargs, ctypes⟩ := c
        rename_i hcal
        simp only at hcal h
        subst hcal
        split at h
        · rename_i s x t t' hargs htys
          split at h
          · rename_i htt
            subst htt
            obtain rfl : cargs = #[s, x] := by rw [← Array.toList_inj, hargs]
            obtain rfl : ctypes = #[t, t] := by rw [← Array.toList_inj, htys]
            obtain ⟨u, w', β', h1, h2, h3, h4⟩ := aappO_sound R h hob (E t s) (E t x) type
            refine wp_value (u := u) (w' := w') ?_ (hK u w' β' h2 h3 h4)
            simp only [execOp, resolve, invoke, builtin, Sem.run_bind, Sem.run_pure, Result.andThen_ok, List.map_toArray, List.map_cons, List.map_nil, h1]
          · cases h
        · cases h
      · obtain ⟨callee, cargs, ctypes⟩ := c
        rename_i hcal
        simp only at hcal h
        subst hcal
        split at h
        · rename_i s t hargs htys
          obtain rfl : cargs = #[s] := by rw [← Array.toList_inj, hargs]
          obtain rfl : ctypes = #[t] := by rw [← Array.toList_inj, htys]
          obtain ⟨w', β', h1, h2, h3, rfl⟩ := aclear_sound R h hob (E t s) type
          refine wp_value (u := .tuple #[]) (w' := w') ?_ (hK _ w' β' h2 h3 (.tup #[] [] (fun _ => undef) rfl (fun j hj => by simp at hj) (fun j v hj => by simp at hj)))
          simp only [execOp, resolve, invoke, builtin, Sem.run_bind, Sem.run_pure, Result.andThen_ok, List.map_toArray, List.map_cons, List.map_nil, h1]
        · cases h
      · obtain ⟨callee, cargs, ctypes⟩ := c
        rename_i hcal
        simp only at hcal h
        subst hcal
        split at h
        · rename_i s x t t' hargs htys
          split at h
          · rename_i htt
            subst htt
            obtain rfl : cargs = #[s, x] := by rw [← Array.toList_inj, hargs]
            obtain rfl : ctypes = #[t, t] := by rw [← Array.toList_inj, htys]
            obtain ⟨u, w', β', h1, h2, h3, h4⟩ := acopy_sound R h hob (E t s) (E t x) type
            refine wp_value (u := u) (w' := w') ?_ (hK u w' β' h2 h3 h4)
            simp only [execOp, resolve, invoke, builtin, Sem.run_bind, Sem.run_pure, Result.andThen_ok, List.map_toArray, List.map_cons, List.map_nil, h1]
          · cases h
        · cases h
      · split at h
        · rename_i f avs htg
          obtain ⟨args, hrun, hsz, harg⟩ := target_sound T G htg
          have hok := hS f
          split at h
          · rename_i p hp
            rw [hp] at hok
            split at h
            · rename_i ob1 r1 hr
              injection h with h; injection h with e1 e2; injection e2 with e2 e3; subst e1 e2
              unfold acallPure at hr
              split at hr
              · rename_i ob1 r1 hpr
                split at hr
                · rename_i hfd
                  injection hr with hr; injection hr with e1 e2; subst e1 e2
                  rcases hok with hok | hx
                  case' inr =>
                    obtain ⟨v, v1, v2⟩ := ext_call R hx hsz harg hpr hob hfd
                    exact quiet (w' := w) (by simp only [execOp]; rw [hrun type, v1]) (Keeps.refl _ _) e3.symm v2
                  obtain ⟨hok, fn, hf1, hf2, hf3⟩ := hok
                  have hrun' : (execOp a.eval { dst, op := .call c, type, pos, after, guard : Oper }).run C.P w = .ok (.enter f args) w := by
                    simp only [execOp]
                    rw [hrun type, run_callFunc hf1 hf2 hf3]
                  refine wp_enter hrun' ?_
                  simp only [Bool.or_eq_true] at hfd
                  by_cases hda : avs.all AV.deepArg = true
                  · have := hok w (Mu X β st.H) args (avs.map (view st.H 6)) ob1 r1 R.mu_lt G (by simp [hsz]) (fun j u hu => by
                      rw [List.getElem?_map] at hu
                      simp only [Option.map_eq_some_iff] at hu
                      obtain ⟨av, hav, rfl⟩ := hu
                      have hdd := List.all_eq_true.1 hda av (List.mem_of_getElem? hav)
                      obtain ⟨v, k1, k2⟩ := harg j av hav
                      rw [view_deepArg hdd]
                      exact ⟨v, k1, rep_deepArg hdd k2⟩) hpr hob
                    refine this.mono fun e w' ⟨v, he, hk, hv⟩ => ⟨v, he, ?_⟩
                    subst e3
                    exact hK v w' β (R.quiet hk) (StepR.quiet hk R.len) (.deep hv)
                  · have hfl := hfd.resolve_right hda
                    have := hok w X args (avs.map (view st.H 6)) ob1 r1 R.base (fun g => (G g).mono fun b _ hb => .inl hb) (by simp [hsz]) (fun j u hu => by
                      rw [List.getElem?_map] at hu
                      simp only [Option.map_eq_some_iff] at hu
                      obtain ⟨av, hav, rfl⟩ := hu
                      obtain ⟨v, k1, k2⟩ := harg j av hav
                      exact ⟨v, k1, (view_sound R (fun _ => True) 6 k2 (fun _ _ => trivial)).mono fun b _ hb => .inl hb⟩) hpr hob
                    refine this.mono fun e w' ⟨v, he, hk, hv⟩ => ⟨v, he, ?_⟩
                    subst e3
                    exact hK v w' β (R.quiet hk) (StepR.quiet hk R.len) (.deep (flat_any hfl hv))
                · cases hr
              · cases hr
            · cases h
          · rename_i p hp
            rw [hp] at hok
            obtain ⟨hok, fn, hf1, hf2, hf3⟩ := hok
            have hrun' : (execOp a.eval { dst, op := .call c, type, pos, after, guard : Oper }).run C.P w = .ok (.enter f args) w := by
              simp only [execOp]
              rw [hrun type, run_callFunc hf1 hf2 hf3]
            split at h
            · rename_i ob1 r1 hpr
              injection h with h; injection h with e1 e2; injection e2 with e2 e3; subst e1 e2 e3
              refine wp_enter hrun' ?_
              have := hok w (XL X β st.H (fun l => l ∈ avs.flatMap (reach st.H 6))) args (avs.map (view st.H 6)) ob1 r1 (fun b hb => R.mu_lt b (XL_mu hb)) (fun g => (G g).mono fun b _ hb => XL_mu hb) (by simp [hsz]) (fun j u hu => by
                rw [List.getElem?_map] at hu
                simp only [Option.map_eq_some_iff] at hu
                obtain ⟨av, hav, rfl⟩ := hu
                obtain ⟨v, k1, k2⟩ := harg j av hav
                exact ⟨v, k1, view_sound R _ 6 k2 fun l hl => List.mem_flatMap.2 ⟨av, List.mem_of_getElem? hav, hl⟩⟩) hpr hob
              have R' := frz_hrel R (avs.flatMap (reach st.H 6))
              refine this.mono fun e w' ⟨v, he, hk, hv⟩ => ⟨v, he, ?_⟩
              exact hK v w' β (R'.quiet hk) ((frz_step R _).trans (StepR.quiet hk R'.len)) (.deep (hv.mono fun b _ hb => XL_frz hb))
            · cases h
          · rename_i g hg
            rw [hg] at hok
            obtain ⟨hok, fn, hf1, hf2, hf3⟩ := hok
            have hrun' : (execOp a.eval { dst, op := .call c, type, pos, after, guard : Oper }).run C.P w = .ok (.enter f args) w := by
              simp only [execOp]
              rw [hrun type, run_callFunc hf1 hf2 hf3]
            refine wp_enter hrun' ?_
            refine (hok w X β st.H args avs ob r H' R G hsz harg h hob).mono fun e w' ⟨v, β', he, h1, h2, h3⟩ => ⟨v, he, hK v w' β' h1 h2 h3⟩
          · cases h
        · cases h
    · cases h
end
end Go.Proofs.YtgjljfbohpnfcaaGreat


namespace Go.Proofs.YtgjljfbohpnfcaaGreat
open Go.RowKit
def Rel (C : Ctx) (N : Nat) (X : Nat → Prop) (w0 : World) (β0 : List BI) (H0 : List Blk) (st : ASt) (a : Act) (w : World) : Prop :=
  ∃ β, HRel w X β st.H ∧ StepR w0 β0 H0 w β st.H ∧ TRel w (Mu X β st.H) β st.H a st.ρ ∧ GRel C w (Mu X β st.H) ∧ a.tmps.size = N ∧ a.defers = []
section
variable {C : Ctx} {N : Nat} {X : Nat → Prop} {w0 : World} {β0 : List BI} {H0 : List Blk}
theorem trel_put {w w' : World} {β β' : List BI} {H H' : List Blk} {a : Act} {ρ : List (Nat × AV)} (T : TRel w (Mu X β H) β H a ρ) (S : StepR w β H w' β' H') {u : Value} {r : AV} (hr : Rep w' (Mu X β' H') β' H' u r) (dst : Option Tmp) (hd : ∀ d, dst = some d → d < a.tmps.size) :
    TRel w' (Mu X β' H') β' H' (a.put dst u) (putA ρ dst r) := by
  intro t
  cases dst with
  | none => exact (T t).keep S
  | some d =>
    have hd := hd d rfl
    simp only [putA, getA, Act.put]
    split
    · rename_i e
      subst e
      have : (a.tmps.setIfInBounds d u).getD d undef = u := by simp [Array.getD_eq_getD_getElem?, hd]
      rw [this]
      exact hr
    · rename_i e
      have : (a.tmps.setIfInBounds d u).getD t undef = a.tmps.getD t undef := by
        simp [Array.getD_eq_getD_getElem?, Array.getElem?_setIfInBounds_ne e]
      rw [this]
      exact (T t).keep S
theorem rel_put {w w' : World} {β β' : List BI} {st : ASt} {H' : List Blk} {a : Act} (S0 : StepR w0 β0 H0 w β st.H) (T : TRel w (Mu X β st.H) β st.H a st.ρ) (G : GRel C w (Mu X β st.H)) (hN : a.tmps.size = N) (hdef : a.defers = [])
    {u : Value} {r : AV} (R' : HRel w' X β' H') (S : StepR w β st.H w' β' H') (hr : Rep w' (Mu X β' H') β' H' u r) (dst : Option Tmp) (hd : ∀ d, dst = some d → d < N) : Rel C N X w0 β0 H0 ⟨putA st.ρ dst r, H'⟩ (a.put dst u) w' := by
  refine ⟨β', R', S0.trans S, trel_put T S hr dst (fun d h => by rw [hN]; exact hd d h), fun g => (G g).keep (fun b hb hn => S.keeps.block b hb (fun hm => hn (.inr hm))) S.keeps.size (fun b hb => S.mu b hb), ?_, ?_⟩
  · cases dst with
    | none => exact hN
    | some d => simp [Act.put, hN]
  · cases dst with
    | none => exact hdef
    | some d => exact hdef
theorem wantG_sound {w : World} {β : List BI} {H : List Blk} {a : Act} {ρ : List (Nat × AV)} (T : TRel w X β H a ρ) {ops : Array Oper} {o : Oper} {g : Bool} (h : wantG ops ρ o = some g) : Region.wanted o (yielded ops a.tmps) = g := by
  unfold wantG at h
  unfold Region.wanted
  split at h
  · rename_i hg
    injection h with h
    rw [hg]
    exact h
  · rename_i j want hg
    rw [hg]
    simp only
    split at h
    · rename_i d hd
      have hT := T d
      split at h
      · rename_i b hb
        injection h with h
        subst h
        rw [hb] at hT
        have h1 := rep_bool hT
        have h2 : a.tmps[d]? = some (.bool b) := by
          rw [Array.getD_eq_getD_getElem?] at h1
          cases hh : a.tmps[d]? with
          | none => rw [hh] at h1; cases h1
          | some x => rw [hh] at h1; simp at h1; rw [h1]
        unfold yielded
        rw [hd]
        simp [h2]
      · rename_i hb
        injection h with h
        subst h
        rw [hb] at hT
        obtain ⟨cs, val, h1, hl, _⟩ := rep_tup hT
        have hcs : cs = #[] := Array.eq_empty_of_size_eq_zero (by simpa using hl)
        subst hcs
        unfold yielded
        rw [hd]
        rw [Array.getD_eq_getD_getElem?] at h1
        cases hh : a.tmps[d]? with
        | none => simp [hh]
        | some x => rw [hh] at h1; simp at h1; subst h1; simp [hh]
      · cases h
    · cases h
theorem rep_skip {w : World} {Y : Nat → Prop} {β : List BI} {H : List Blk} : Rep w Y β H undef (.tup []) :=
  .tup #[] [] (fun _ => undef) rfl (fun j hj => by simp at hj) (fun j v hj => by simp at hj)
theorem wpList_of_aops (hS : SigOK C) {ops : Array Oper} {Q : Exit → Act → World → Prop} : ∀ (l : List Oper), (∀ o ∈ l, ∀ d, o.dst = some d → d < N) → ∀ {st : ASt} {K : ASt → Prop} {a : Act} {w : World}, aops C ops l st K → Rel C N X w0 β0 H0 st a w →
    (∀ st' a' w', Rel C N X w0 β0 H0 st' a' w' → K st' → Q .normal a' w') → wpList C.P ops Q l a w
  | [], _, st, K, a, w, h, hr, hQ => hQ st a w hr h
  | o :: r, hd, st, K, a, w, h, hr, hQ => by
    obtain ⟨β, R, S0, T, G, hN, hdef⟩ := hr
    unfold aops at h
    split at h
    · exact h.elim
    · rename_i g hg
      have hw := wantG_sound T hg
      have ih := fun {st : ASt} {a : Act} {w : World} => wpList_of_aops hS r (fun o ho => hd o (List.mem_cons_of_mem _ ho)) (st := st) (K := K) (a := a) (w := w) (ops := ops) (Q := Q)
      unfold wpList
      rw [hw]
      cases g with
      | true =>
        have h := h.1 rfl
        split at h
        · rename_i ob v H' hst
          rw [if_pos rfl]
          refine .inl (astep_sound hS R T G hst h.1 fun u w' β' R' S hr => ih h.2 (rel_put S0 T G hN hdef R' S hr o.dst (hd o (by simp))) hQ)
        · exact h.elim
      | false =>
        have h := h.2 rfl
        rw [if_neg (by simp)]
        exact ih h (rel_put S0 T G hN hdef R (StepR.refl _ _ _ R.len) rep_skip o.dst (hd o (by simp))) hQ
end
end Go.Proofs.YtgjljfbohpnfcaaGreat
namespace Go.Proofs.YtgjljfbohpnfcaaGreat
open Go.RowKit
section
variable {C : Ctx} {ρ ρ' : List (Nat × AV)} {H : List Blk}
theorem aev_congr {t : TypeId} {x : Operand} (h : ∀ i, x = .tmp i → getA ρ i = getA ρ' i) : aev C ρ t x = aev C ρ' t x := by
  cases x with
  | tmp i => exact h i rfl
  | _ => rfl
theorem argAVs_congr : ∀ {xs : List Operand} {ts : List TypeId}, (∀ x ∈ xs, ∀ t, aev C ρ t x = aev C ρ' t x) → argAVs C ρ xs ts = argAVs C ρ' xs ts
  | [], ts, _ => by cases ts <;> rfl
  | x :: r, [], h => by simp only [argAVs, h x (by simp) 0, argAVs_congr (xs := r) (ts := []) (fun y hy => h y (List.mem_cons_of_mem _ hy))]
  | x :: r, t :: q, h => by simp only [argAVs, h x (by simp) t, argAVs_congr (xs := r) (ts := q) (fun y hy => h y (List.mem_cons_of_mem _ hy))]
theorem optmap_congr {lo : Option Operand} {t : TypeId} (h : ∀ x, lo = some x → aev C ρ t x = aev C ρ' t x) : lo.map (aev C ρ t) = lo.map (aev C ρ' t) := by
  cases lo with
  | none => rfl
  | some x => simp [h x rfl]
theorem target_congr {c : Call} (h : ∀ x ∈ c.operands, ∀ t, aev C ρ t x = aev C ρ' t x) : target C ρ c = target C ρ' c := by
  have ha : ∀ x ∈ c.args.toList, ∀ t, aev C ρ t x = aev C ρ' t x := fun x hx => h x (by simp only [Call.operands]; exact Array.mem_append.2 (.inr (Array.mem_toList_iff.1 hx)))
  unfold target
  split
  · rename_i f hf
    rw [h f (by simp [Call.operands, hf]) 0, argAVs_congr ha]
  · rfl
theorem parts_congr {parts : List (Nat × Operand)} {ty : Nat → TypeId} (h : ∀ x ∈ parts.map (·.2), ∀ t, aev C ρ t x = aev C ρ' t x) : (parts.map fun p => (p.1, aev C ρ (ty p.1) p.2)) = parts.map fun p => (p.1, aev C ρ' (ty p.1) p.2) :=
  List.map_congr_left fun p hp => by rw [h p.2 (List.mem_map.2 ⟨p, hp, rfl⟩)]
theorem call_args {c : Call} (h : ∀ x ∈ c.operands, ∀ t, aev C ρ t x = aev C ρ' t x) : ∀ x ∈ c.args.toList, ∀ t, aev C ρ t x = aev C ρ' t x := fun x hx => h x (by simp only [Call.operands]; exact Array.mem_append.2 (.inr (Array.mem_toList_iff.1 hx)))
theorem abuild_congr {t : TypeId} {parts : List (Nat × Operand)} (hp : ∀ x ∈ parts.map (·.2), ∀ t, aev C ρ t x = aev C ρ' t x) : abuild C ρ t parts = abuild C ρ' t parts := by
  unfold abuild
  cases zT C.P t with
  | none => rfl
  | some z =>
    simp only
    cases arrT C.P t with
    | none => simp only; rw [parts_congr (ty := fieldTy C t) hp]
    | some ne =>
      obtain ⟨n, e⟩ := ne
      simp only
      rw [parts_congr (ty := fun _ => e) hp]
theorem apure_congr {o : Oper} (h : ∀ x ∈ o.op.operands, ∀ t, aev C ρ t x = aev C ρ' t x) : apure C ρ o = apure C ρ' o := by
  obtain ⟨dst, op, type, pos, after, guard⟩ := o
  simp only at h
  unfold apure
  simp only
  cases op <;> simp only [Op.operands] at h <;> try rfl
  case move x => simp only; rw [h x (by simp)]
  case assign x => simp only; rw [h x (by simp)]
  case pick c a b => simp only; rw [h c (by simp), h a (by simp), h b (by simp)]
  case binOp op t x y ty => simp only; rw [h x (by simp), h y (by simp)]
  case unOp op t x => simp only; rw [h x (by simp)]
  case convert s d x => simp only; rw [h x (by simp)]
  case field t x k => simp only; rw [h x (by simp)]
  case fieldAddr t x k => simp only; rw [h x (by simp)]
  case indexAddr t x ix => simp only; rw [h x (by simp), h ix (by simp)]
  case index t x ix => simp only; rw [h x (by simp), h ix (by simp)]
  case slice t x lo hi mx =>
    simp only
    rw [h x (by simp), optmap_congr (lo := lo) (fun y hy => h y (by subst hy; simp) _), optmap_congr (lo := hi) (fun y hy => h y (by subst hy; simp) _), optmap_congr (lo := mx) (fun y hy => h y (by subst hy; simp) _)]
  case extract x k => simp only; rw [h x (by simp)]
  case makeFunc fn first cap =>
    cases fn with
    | func f =>
      simp only
      have : cap.toList.map (aev C ρ 0) = cap.toList.map (aev C ρ' 0) := List.map_congr_left fun x hx => h x (Array.mem_append.2 (.inr (Array.mem_toList_iff.1 hx))) 0
      rw [this]
    | _ => rfl
  case nilCheck x => simp only; rw [h x (by simp)]
  case lookup t m x ok => simp only; rw [h m (by simp), h x (by simp)]
  case build t parts =>
    have hp : ∀ x ∈ parts.toList.map (·.2), ∀ t, aev C ρ t x = aev C ρ' t x := fun x hx => h x (by simpa using hx)
    simp only
    rw [abuild_congr hp]
  case call c =>
    have ha := call_args h
    obtain ⟨callee, args, argTypes⟩ := c
    simp only at ha ⊢
    split
    · split
      · rename_i x t hx ht
        rw [ha x (by rw [hx]; simp)]
      · rfl
    · rw [argAVs_congr ha]
    · rw [argAVs_congr ha]
    · rfl
theorem aread_congr {o : Oper} (h : ∀ x ∈ o.op.operands, ∀ t, aev C ρ t x = aev C ρ' t x) : aread C ρ H o = aread C ρ' H o := by
  obtain ⟨dst, op, type, pos, after, guard⟩ := o
  simp only at h
  unfold aread
  simp only
  cases op <;> simp only [Op.operands] at h <;> try rfl
  case load t p => simp only; rw [h p (by simp)]
  case buildSlice t len parts =>
    have hp : ∀ x ∈ parts.toList.map (·.2), ∀ t, aev C ρ t x = aev C ρ' t x := fun x hx => h x (by simpa using hx)
    have : elParts C ρ t parts.toList = elParts C ρ' t parts.toList := by
      unfold elParts
      split
      · rename_i e _; exact parts_congr (ty := fun _ => e) hp
      · rfl
    simp only
    rw [this]
  case convert s d x => simp only; rw [h x (by simp)]
  case call c => simp only; rw [target_congr h]
theorem aeff_congr {o : Oper} (h : ∀ x ∈ o.op.operands, ∀ t, aev C ρ t x = aev C ρ' t x) : aeff C ρ H o = aeff C ρ' H o := by
  obtain ⟨dst, op, type, pos, after, guard⟩ := o
  simp only at h
  unfold aeff
  simp only
  cases op <;> simp only [Op.operands] at h <;> try rfl
  case box t x => simp only; rw [h x (by simp)]
  case store t p x => simp only; rw [h p (by simp), h x (by simp)]
  case buildSlice t len parts =>
    have hp : ∀ x ∈ parts.toList.map (·.2), ∀ t, aev C ρ t x = aev C ρ' t x := fun x hx => h x (by simpa using hx)
    have : elParts C ρ t parts.toList = elParts C ρ' t parts.toList := by
      unfold elParts
      split
      · rename_i e _; exact parts_congr (ty := fun _ => e) hp
      · rfl
    simp only
    rw [this]
  case makeSlice t l c => simp only; rw [h l (by simp), h c (by simp)]
  case call c =>
    have ha := call_args h
    have ht := target_congr h
    obtain ⟨callee, args, argTypes⟩ := c
    simp only at ha ⊢
    split
    · split
      · rename_i s x t t' hx _
        rw [ha s (by rw [hx]; simp), ha x (by rw [hx]; simp)]
      · rfl
    · split
      · rename_i s t hx _
        rw [ha s (by rw [hx]; simp)]
      · rfl
    · split
      · rename_i s x t t' hx _
        rw [ha s (by rw [hx]; simp), ha x (by rw [hx]; simp)]
      · rfl
    · rw [ht]
theorem astep_congr {o : Oper} (h : ∀ x ∈ o.op.operands, ∀ t, aev C ρ t x = aev C ρ' t x) : astep C ⟨ρ, H⟩ o = astep C ⟨ρ', H⟩ o := by
  unfold astep
  cases kindOf C o with
  | pure => simp only [apure_congr h]
  | read => simp only [aread_congr h]
  | eff => simp only [aeff_congr h]
theorem astep_pure {o : Oper} (hk : kindOf C o = .pure) {ob : Prop} {v : AV} {H' : List Blk} (h : astep C ⟨ρ, H⟩ o = some (ob, v, H')) : H' = H ∧ ∀ H2, astep C ⟨ρ, H2⟩ o = some (ob, v, H2) := by
  unfold astep at h ⊢
  rw [hk] at h
  simp only at h
  rw [hk]
  split at h
  · rename_i h1
    injection h with h; injection h with e1 e2; injection e2 with e2 e3; subst e1 e2 e3
    refine ⟨rfl, fun H2 => ?_⟩
    simp only [h1]
  · cases h
theorem astep_read {o : Oper} (hk : kindOf C o = .read) {ob : Prop} {v : AV} {H' : List Blk} (h : astep C ⟨ρ, H⟩ o = some (ob, v, H')) : H' = H := by
  unfold astep at h
  rw [hk] at h
  simp only at h
  split at h
  · injection h with h; injection h with e1 e2; injection e2 with e2 e3; exact e3.symm
  · cases h
end
end Go.Proofs.YtgjljfbohpnfcaaGreat
namespace Go.Proofs.YtgjljfbohpnfcaaGreat
open Go.RowKit
def directs (o : Oper) : List Nat := (o.after.toList.filter fun e => Region.binds .any e).map (·.on)
def befT : List Oper → List (List Nat) → List (List Nat)
  | [], acc => acc
  | o :: r, acc => befT r (acc ++ [(directs o).foldl (fun s d => (d :: acc.getD d []).foldl (fun s x => if s.contains x then s else x :: s) s) []])
def opAt (ops : Array Oper) (i : Nat) : Oper := ops.getD i default
def isEff (C : Ctx) (o : Oper) : Bool := match kindOf C o with | .eff => true | _ => false
def isPure (C : Ctx) (o : Oper) : Bool := match kindOf C o with | .pure => true | _ => false
def looks (ops : Array Oper) (o : Oper) : List Tmp :=
  (o.op.operands.toList.filterMap fun x => match x with | .tmp t => some t | _ => none) ++
  (match o.guard with
   | some (j, _) => match (ops[j]?).bind (·.dst) with | some d => [d] | none => []
   | none => [])
def confl (C : Ctx) (ops : Array Oper) (x y : Oper) : Bool :=
  (match x.dst with | some d => (looks ops y).contains d | none => false) || (isEff C x && !isPure C y)
def conflF (C : Ctx) (ops : Array Oper) (x y : Oper) : Bool :=
  (match x.dst with | some d => (looks ops y).contains d | none => false) || (isEff C x && isEff C y)
def regOKi (ops : Array Oper) (cf : Oper → Oper → Bool) (B : Nat → List Nat) (i : Nat) : Bool :=
  (directs (opAt ops i)).all (fun d => decide (d < i)) &&
  (B i).all (fun x => decide (x < i) && ((directs (opAt ops i)).contains x || (directs (opAt ops i)).any fun d => (B d).contains x)) &&
  (List.range ops.size).all fun j => i == j ||
    ((!cf (opAt ops i) (opAt ops j) || (B j).contains i || (B i).contains j) &&
     (match (opAt ops i).dst with | some d => (opAt ops j).dst != some d | none => true))
def regOK (C : Ctx) (ops : Array Oper) : Bool :=
  (List.range ops.size).all (regOKi ops (confl C ops) fun i => (befT ops.toList []).getD i [])
def regOKF (C : Ctx) (ops : Array Oper) : Bool :=
  (List.range ops.size).all (regOKi ops (conflF C ops) fun i => (befT ops.toList []).getD i [])
section
variable {C : Ctx} {N : Nat} {X : Nat → Prop} {w0 : World} {β0 : List BI} {H0 : List Blk}
structure Trace (C : Ctx) (ops : Array Oper) (k : Nat) (st : ASt) (v : Nat → AV) (ρ : Nat → List (Nat × AV)) (H : Nat → List Blk) : Prop where
  ρ0 : ρ k = st.ρ
  H0 : H k = st.H
  step : ∀ i, k ≤ i → i < ops.size → ∃ g, wantG ops (ρ i) (opAt ops i) = some g ∧ (g = true → ∃ ob, astep C ⟨ρ i, H i⟩ (opAt ops i) = some (ob, v i, H (i + 1)) ∧ ob) ∧ (g = false → v i = .tup [] ∧ H (i + 1) = H i) ∧ ρ (i + 1) = putA (ρ i) (opAt ops i).dst (v i)
theorem aops_trace {ops : Array Oper} : ∀ (l : List Oper) (k : Nat) (st : ASt) (K : ASt → Prop), (∀ j : Nat, l[j]? = ops[k + j]?) → k ≤ ops.size → aops C ops l st K → ∃ v ρ H, Trace C ops k st v ρ H ∧ K ⟨ρ ops.size, H ops.size⟩
  | [], k, st, K, hl, hk, h => by
    have h0 := hl 0
    simp at h0
    have : k = ops.size := by omega
    subst this
    exact ⟨fun _ => .undef, fun _ => st.ρ, fun _ => st.H, ⟨rfl, rfl, fun i h1 h2 => by omega⟩, h⟩
  | o :: r, k, st, K, hl, hk, h => by
    have h0 := hl 0
    simp only [List.getElem?_cons_zero, Nat.add_zero] at h0
    have hlt : k < ops.size := (Array.getElem?_eq_some_iff.1 h0.symm).1
    have ho : opAt ops k = o := by simp [opAt, Array.getD_eq_getD_getElem?, ← h0]
    have hl' : ∀ j : Nat, r[j]? = ops[k + 1 + j]? := fun j => by have := hl (j + 1); rwa [List.getElem?_cons_succ, show k + (j + 1) = k + 1 + j by omega] at this
    unfold aops at h
    split at h
    · exact h.elim
    · rename_i g hg
      have fin : ∀ (vk : AV) (Hk : List Blk), ((g = true → ∃ ob, astep C ⟨st.ρ, st.H⟩ o = some (ob, vk, Hk) ∧ ob) ∧ (g = false → vk = .tup [] ∧ Hk = st.H)) → aops C ops r ⟨putA st.ρ o.dst vk, Hk⟩ K → ∃ v ρ H, Trace C ops k st v ρ H ∧ K ⟨ρ ops.size, H ops.size⟩ := by
        intro vk Hk hst hr
        obtain ⟨v, ρ, H, hT, hK⟩ := aops_trace r (k + 1) _ K hl' (by omega) hr
        refine ⟨fun i => if i = k then vk else v i, fun i => if i = k then st.ρ else ρ i, fun i => if i = k then st.H else H i, ⟨by simp, by simp, fun i h1 h2 => ?_⟩, ?_⟩
        · by_cases e : i = k
          · subst e
            refine ⟨g, by simpa [ho] using hg, fun hgt => ?_, fun hgf => ?_, ?_⟩
            · simp only [if_true, ho, Nat.succ_ne_self, if_false, hT.H0]
              exact hst.1 hgt
            · simp only [if_true, Nat.succ_ne_self, if_false, hT.H0]
              exact hst.2 hgf
            · simp only [if_true, ho, Nat.succ_ne_self, if_false, hT.ρ0]
          · have := hT.step i (by omega) h2
            simp only [e, if_false, show ¬ i + 1 = k by omega]
            exact this
        · have e : ¬ ops.size = k := by omega
          simpa only [e, if_false] using hK
      cases g with
      | true =>
        have h := h.1 rfl
        split at h
        · rename_i ob vk Hk hst
          exact fin vk Hk ⟨fun _ => ⟨ob, hst, h.1⟩, fun h => by cases h⟩ h.2
        · exact h.elim
      | false => exact fin (.tup []) st.H ⟨fun h => (by cases h), fun _ => ⟨rfl, rfl⟩⟩ (h.2 rfl)
theorem getA_putA {ρ : List (Nat × AV)} {dst : Option Nat} {v : AV} {t : Nat} : getA (putA ρ dst v) t = if dst = some t then v else getA ρ t := by
  cases dst with
  | none => simp [putA]
  | some d => simp [putA, getA]
theorem wantG_congr {ops : Array Oper} {ρ ρ' : List (Nat × AV)} {o : Oper} (h : ∀ t ∈ looks ops o, getA ρ t = getA ρ' t) : wantG ops ρ o = wantG ops ρ' o := by
  unfold wantG
  cases hg : o.guard with
  | none => rfl
  | some jw =>
    obtain ⟨j, want⟩ := jw
    simp only
    cases hd : (ops[j]?).bind (·.dst) with
    | none => rfl
    | some d =>
      simp only
      rw [h d (by simp [looks, hg, hd])]
theorem looks_aev {ops : Array Oper} {ρ ρ' : List (Nat × AV)} {o : Oper} (h : ∀ t ∈ looks ops o, getA ρ t = getA ρ' t) : ∀ x ∈ o.op.operands, ∀ t, aev C ρ t x = aev C ρ' t x := by
  intro x hx t
  refine aev_congr fun i hi => h i ?_
  subst hi
  exact List.mem_append.2 (.inl (List.mem_filterMap.2 ⟨.tmp i, Array.mem_toList_iff.2 hx, rfl⟩))
structure RegFacts (C : Ctx) (ops : Array Oper) (B : Nat → List Nat) : Prop where
  dir : ∀ i, i < ops.size → ∀ d ∈ directs (opAt ops i), d < i
  lt : ∀ i, i < ops.size → ∀ x ∈ B i, x < i
  clo : ∀ i, i < ops.size → ∀ x ∈ B i, x ∈ directs (opAt ops i) ∨ ∃ d ∈ directs (opAt ops i), x ∈ B d
  con : ∀ i j, i < ops.size → j < ops.size → i ≠ j → conflF C ops (opAt ops i) (opAt ops j) = true → i ∈ B j ∨ j ∈ B i
  dst : ∀ i j, i < ops.size → j < ops.size → i ≠ j → ∀ d, (opAt ops i).dst = some d → (opAt ops j).dst ≠ some d
theorem regOKi_facts {ops : Array Oper} {cf : Oper → Oper → Bool} {B : Nat → List Nat} (h : (List.range ops.size).all (regOKi ops cf B) = true) (hcf : ∀ x y, conflF C ops x y = true → cf x y = true) : RegFacts C ops B ∧ ∀ i j, i < ops.size → j < ops.size → i ≠ j → cf (opAt ops i) (opAt ops j) = true → i ∈ B j ∨ j ∈ B i := by
  have hi : ∀ i, i < ops.size → regOKi ops cf B i = true := fun i hi => List.all_eq_true.1 h i (List.mem_range.2 hi)
  have parts : ∀ i, i < ops.size → ((∀ d ∈ directs (opAt ops i), d < i) ∧ (∀ x ∈ B i, x < i ∧ (x ∈ directs (opAt ops i) ∨ ∃ d ∈ directs (opAt ops i), x ∈ B d))) ∧ ∀ j, j < ops.size → i ≠ j →
      (cf (opAt ops i) (opAt ops j) = true → i ∈ B j ∨ j ∈ B i) ∧ ∀ d, (opAt ops i).dst = some d → (opAt ops j).dst ≠ some d := by
    intro i hlt
    have h1 := hi i hlt
    unfold regOKi at h1
    simp only [Bool.and_eq_true, List.all_eq_true, decide_eq_true_eq, Bool.or_eq_true, List.any_eq_true, List.contains_iff_mem] at h1
    refine ⟨⟨h1.1.1, fun x hx => h1.1.2 x hx⟩, fun j hj hne => ?_⟩
    have h2 := (h1.2 j (List.mem_range.2 hj)).resolve_left (by simpa using hne)
    refine ⟨fun hc => ?_, fun d hd => ?_⟩
    · rcases h2.1 with (h3 | h3) | h3
      · simp [hc] at h3
      · exact .inl h3
      · exact .inr h3
    · have h3 := h2.2
      rw [hd] at h3
      simpa using h3
  exact ⟨⟨fun i hi => (parts i hi).1.1, fun i hi x hx => ((parts i hi).1.2 x hx).1, fun i hi x hx => ((parts i hi).1.2 x hx).2, fun i j hi hj hne hc => ((parts i hi).2 j hj hne).1 (hcf _ _ hc), fun i j hi hj hne => ((parts i hi).2 j hj hne).2⟩, fun i j hi hj hne => ((parts i hi).2 j hj hne).1⟩
theorem conflF_confl {ops : Array Oper} {x y : Oper} (h : conflF C ops x y = true) : confl C ops x y = true := by
  unfold conflF at h
  unfold confl
  rcases Bool.or_eq_true_iff.1 h with h | h
  · rw [h]; rfl
  · simp only [Bool.and_eq_true] at h
    have : isPure C y = false := by
      have h2 := h.2
      unfold isEff at h2
      unfold isPure
      cases hk : kindOf C y <;> simp_all
    simp [h.1, this]
theorem regOK_facts {ops : Array Oper} (h : regOK C ops = true) : ∃ B, RegFacts C ops B ∧ ∀ i j, i < ops.size → j < ops.size → i ≠ j → isEff C (opAt ops i) = true → isPure C (opAt ops j) = false → i ∈ B j ∨ j ∈ B i := by
  obtain ⟨F, h2⟩ := regOKi_facts h fun _ _ => conflF_confl
  exact ⟨_, F, fun i j hi hj hne h3 h4 => h2 i j hi hj hne (by simp [confl, h3, h4])⟩
theorem regOKF_facts {ops : Array Oper} (h : regOKF C ops = true) : RegFacts C ops fun i => (befT ops.toList []).getD i [] := (regOKi_facts h fun _ _ h => h).1
end
end Go.Proofs.YtgjljfbohpnfcaaGreat
namespace Go.Proofs.YtgjljfbohpnfcaaGreat
open Go.RowKit
section
variable {C : Ctx} {N : Nat} {X : Nat → Prop} {w0 : World} {β0 : List BI} {H0 : List Blk} {ops : Array Oper} {B : Nat → List Nat} {st : ASt} {v : Nat → AV} {ρ : Nat → List (Nat × AV)} {H : Nat → List Blk}
theorem tr_rest (T : Trace C ops 0 st v ρ H) : ∀ i, i ≤ ops.size → ∀ t, (∀ j, j < i → (opAt ops j).dst ≠ some t) → getA (ρ i) t = getA (ρ 0) t
  | 0, _, _, _ => rfl
  | i + 1, hi, t, h => by
    obtain ⟨g, _, _, _, h4⟩ := T.step i (Nat.zero_le _) hi
    rw [h4, getA_putA, if_neg (h i (by omega))]
    exact tr_rest T i (by omega) t fun j hj => h j (by omega)
theorem tr_val (T : Trace C ops 0 st v ρ H) (F : RegFacts C ops B) : ∀ i, i ≤ ops.size → ∀ j d, j < i → (opAt ops j).dst = some d → getA (ρ i) d = v j
  | 0, _, _, _, h, _ => by omega
  | i + 1, hi, j, d, hj, hd => by
    obtain ⟨g, _, _, _, h4⟩ := T.step i (Nat.zero_le _) hi
    rw [h4, getA_putA]
    by_cases e : j = i
    · subst e; rw [if_pos hd]
    · rw [if_neg (fun h => F.dst j i (by omega) (by omega) e d hd h)]
      exact tr_val T F i (by omega) j d (by omega) hd
theorem tr_const1 (T : Trace C ops 0 st v ρ H) {i : Nat} (hi : i < ops.size) (he : isEff C (opAt ops i) = false) : H (i + 1) = H i := by
  obtain ⟨g, _, h2, h3, _⟩ := T.step i (Nat.zero_le _) hi
  cases g with
  | true =>
    obtain ⟨ob, h2, _⟩ := h2 rfl
    cases hk : kindOf C (opAt ops i) with
    | pure => exact (astep_pure hk h2).1
    | read => exact astep_read hk h2
    | eff => simp [isEff, hk] at he
  | false => exact (h3 rfl).2
theorem tr_const (T : Trace C ops 0 st v ρ H) {k : Nat} : ∀ m, k + m ≤ ops.size → (∀ e, k ≤ e → e < k + m → isEff C (opAt ops e) = false) → H k = H (k + m)
  | 0, _, _ => rfl
  | m + 1, hm, he => by
    rw [tr_const T m (by omega) fun e h1 h2 => he e h1 (by omega)]
    exact (tr_const1 T (by omega) (he (k + m) (by omega) (by omega))).symm
theorem tr_sep (T : Trace C ops 0 st v ρ H) {k k' : Nat} (hk : k ≤ ops.size) (hk' : k' ≤ ops.size) (h : ∀ e, e < ops.size → isEff C (opAt ops e) = true → (e < k ↔ e < k')) : H k = H k' := by
  rcases Nat.le_total k k' with h1 | h1
  · have := tr_const T (k := k) (k' - k) (by omega) fun e e1 e2 => by
      cases hh : isEff C (opAt ops e) with
      | false => rfl
      | true => have := (h e (by omega) hh).2 (by omega); omega
    rwa [show k + (k' - k) = k' by omega] at this
  · have := tr_const T (k := k') (k - k') (by omega) fun e e1 e2 => by
      cases hh : isEff C (opAt ops e) with
      | false => rfl
      | true => have := (h e (by omega) hh).1 (by omega); omega
    rw [show k' + (k - k') = k by omega] at this
    exact this.symm
structure Inv (C : Ctx) (ops : Array Oper) (B : Nat → List Nat) (v : Nat → AV) (ρ : Nat → List (Nat × AV)) (H : Nat → List Blk) (L : Nat → Prop) (ρS : List (Nat × AV)) (HS : List Blk) : Prop where
  clo : ∀ i, i < ops.size → L i → ∀ x ∈ B i, L x
  val : ∀ i, i < ops.size → L i → ∀ d, (opAt ops i).dst = some d → getA ρS d = v i
  rest : ∀ t, (∀ i, i < ops.size → L i → (opAt ops i).dst ≠ some t) → getA ρS t = getA (ρ 0) t
  heap : ∀ k, k ≤ ops.size → (∀ i, i < ops.size → isEff C (opAt ops i) = true → (L i ↔ i < k)) → HS = H k
theorem confl_eff {x y : Oper} (h1 : isEff C x = true) (h2 : isEff C y = true) : conflF C ops x y = true := by simp [conflF, h1, h2]
theorem confl_dst {x y : Oper} {d : Nat} (h1 : x.dst = some d) (h2 : d ∈ looks ops y) : conflF C ops x y = true := by simp [conflF, h1, h2]
theorem behind (F : RegFacts C ops B) {L : Nat → Prop} (hclo : ∀ i, i < ops.size → L i → ∀ x ∈ B i, L x) {i : Nat} (hi : i < ops.size) (hd : ∀ d ∈ directs (opAt ops i), L d) : ∀ x ∈ B i, L x := by
  intro x hx
  rcases F.clo i hi x hx with h | ⟨d, h, h'⟩
  · exact hd x h
  · exact hclo d (by have := F.dir i hi d h; omega) (hd d h) x h'
theorem inv_looks (T : Trace C ops 0 st v ρ H) (F : RegFacts C ops B) {L : Nat → Prop} {ρS : List (Nat × AV)} {HS : List Blk} (I : Inv C ops B v ρ H L ρS HS) {i : Nat} (hi : i < ops.size) (hL : ¬ L i) (hd : ∀ d ∈ directs (opAt ops i), L d) :
    ∀ t ∈ looks ops (opAt ops i), getA ρS t = getA (ρ i) t := by
  have hB := behind F I.clo hi hd
  intro t ht
  by_cases hex : ∃ j, j < ops.size ∧ (opAt ops j).dst = some t
  · obtain ⟨j, hj, hdj⟩ := hex
    by_cases e : j = i
    · subst e
      have h1 : getA ρS t = getA (ρ 0) t := I.rest t fun k hk hLk hdk => by
        by_cases e : k = j
        · subst e; exact hL hLk
        · exact F.dst j k hj hk (fun h => e h.symm) t hdj hdk
      rw [h1, tr_rest T j (by omega) t fun k hk hdk => F.dst j k hj (by omega) (by omega) t hdj hdk]
    · rcases F.con j i hj hi e (confl_dst hdj ht) with h | h
      · rw [I.val j hj (hB j h) t hdj, tr_val T F i (by omega) j t (F.lt i hi j h) hdj]
      · have hij := F.lt j hj i h
        have hnL : ¬ L j := fun h' => hL (I.clo j hj h' i h)
        rw [I.rest t fun k hk hLk hdk => by
          by_cases e' : k = j
          · subst e'; exact hnL hLk
          · exact F.dst j k hj hk (fun h => e' h.symm) t hdj hdk]
        rw [tr_rest T i (by omega) t fun k hk hdk => by
          by_cases e' : k = j
          · omega
          · exact F.dst j k hj (by omega) (fun h => e' h.symm) t hdj hdk]
  · rw [I.rest t fun k hk _ hdk => hex ⟨k, hk, hdk⟩, tr_rest T i (by omega) t fun k hk hdk => hex ⟨k, by omega, hdk⟩]
theorem inv_heap (F : RegFacts C ops B) {L : Nat → Prop} {ρS : List (Nat × AV)} {HS : List Blk} (I : Inv C ops B v ρ H L ρS HS) {i : Nat} (hi : i < ops.size) (hL : ¬ L i) (hd : ∀ d ∈ directs (opAt ops i), L d) (hp : isEff C (opAt ops i) = true) :
    (∀ e, e < ops.size → isEff C (opAt ops e) = true → (L e ↔ e < i)) := by
  have hB := behind F I.clo hi hd
  intro e he hee
  by_cases h : e = i
  · subst h
    exact ⟨fun h => absurd h hL, fun h => by omega⟩
  · rcases F.con e i he hi h (confl_eff hee hp) with h1 | h1
    · exact ⟨fun _ => F.lt i hi e h1, fun _ => hB e h1⟩
    · have := F.lt e he i h1
      exact ⟨fun h2 => absurd (I.clo e he h2 i h1) hL, fun h2 => by omega⟩
theorem inv_next (T : Trace C ops 0 st v ρ H) (F : RegFacts C ops B) {L : Nat → Prop} {ρS : List (Nat × AV)} {HS : List Blk} (I : Inv C ops B v ρ H L ρS HS) {i : Nat} (hi : i < ops.size) (hL : ¬ L i) (hd : ∀ d ∈ directs (opAt ops i), L d)
    {HS' : List Blk} (hH : (isEff C (opAt ops i) = true → HS' = H (i + 1)) ∧ (isEff C (opAt ops i) = false → HS' = HS)) : Inv C ops B v ρ H (fun j => j = i ∨ L j) (putA ρS (opAt ops i).dst (v i)) HS' := by
  have hB := behind F I.clo hi hd
  refine ⟨fun j hj hl x hx => ?_, fun j hj hl d hdj => ?_, fun t ht => ?_, fun k hk hsep => ?_⟩
  · rcases hl with rfl | hl
    · exact .inr (hB x hx)
    · exact .inr (I.clo j hj hl x hx)
  · rw [getA_putA]
    by_cases e : j = i
    · subst e; rw [if_pos hdj]
    · rw [if_neg (fun h => F.dst j i hj hi e d hdj h)]
      exact I.val j hj (hl.resolve_left e) d hdj
  · rw [getA_putA, if_neg (ht i hi (.inl rfl))]
    exact I.rest t fun k hk hlk => ht k hk (.inr hlk)
  · cases he : isEff C (opAt ops i) with
    | true =>
      rw [hH.1 he]
      have h1 := inv_heap F I hi hL hd he
      have hik := (hsep i hi he).1 (.inl rfl)
      refine tr_sep T hi hk fun e he1 he2 => ?_
      by_cases h : e = i
      · subst h; exact ⟨fun _ => hik, fun _ => by omega⟩
      · have h2 := h1 e he1 he2
        have h3 := hsep e he1 he2
        constructor
        · intro h4; exact h3.1 (.inr (h2.2 (by omega)))
        · intro h4
          have := h2.1 ((h3.2 h4).resolve_left h)
          omega
    | false =>
      rw [hH.2 he]
      refine I.heap k hk fun e he1 he2 => ?_
      have h3 := hsep e he1 he2
      have hne : e ≠ i := fun h => by subst h; rw [he] at he2; cases he2
      exact ⟨fun h => h3.1 (.inr h), fun h => (h3.2 h).resolve_left hne⟩
theorem cut_of (F : RegFacts C ops B) {L : Nat → Prop} (hclo : ∀ i, i < ops.size → L i → ∀ x ∈ B i, L x) : ∀ n, n ≤ ops.size → ∃ k, k ≤ n ∧ ∀ e, e < n → isEff C (opAt ops e) = true → (L e ↔ e < k)
  | 0, _ => ⟨0, Nat.le_refl _, fun e he => by omega⟩
  | n + 1, hn => by
    obtain ⟨k, hk, h⟩ := cut_of F hclo n (by omega)
    by_cases hl : isEff C (opAt ops n) = true ∧ L n
    · refine ⟨n + 1, Nat.le_refl _, fun e he hee => ⟨fun _ => he, fun _ => ?_⟩⟩
      by_cases e1 : e = n
      · subst e1; exact hl.2
      · rcases F.con e n (by omega) (by omega) e1 (confl_eff hee hl.1) with h1 | h1
        · exact hclo n (by omega) hl.2 e h1
        · have := F.lt e (by omega) n h1; omega
    · refine ⟨k, by omega, fun e he hee => ?_⟩
      by_cases e1 : e = n
      · subst e1
        exact ⟨fun h2 => absurd ⟨hee, h2⟩ hl, fun h2 => by omega⟩
      · exact h e (by omega) hee
def Stable (C : Ctx) (ops : Array Oper) (B : Nat → List Nat) (v : Nat → AV) (ρ : Nat → List (Nat × AV)) (H : Nat → List Blk) : Prop :=
  ∀ i k, i < ops.size → k ≤ ops.size → kindOf C (opAt ops i) = .read → wantG ops (ρ i) (opAt ops i) = some true → (∀ e, e < ops.size → isEff C (opAt ops e) = true → e ∈ B i → e < k) → (∀ e, e < ops.size → isEff C (opAt ops e) = true → i ∈ B e → k ≤ e) →
    ∃ ob, astep C ⟨ρ i, H k⟩ (opAt ops i) = some (ob, v i, H k) ∧ ob
theorem stable_of (T : Trace C ops 0 st v ρ H) (F : RegFacts C ops B) (hf : ∀ i j, i < ops.size → j < ops.size → i ≠ j → isEff C (opAt ops i) = true → isPure C (opAt ops j) = false → i ∈ B j ∨ j ∈ B i) : Stable C ops B v ρ H := by
  intro i k hi hk hkd hg h1 h2
  have e : H k = H i := tr_sep T hk (by omega) fun e he hee => by
    have hne : e ≠ i := fun h => by subst h; simp [isEff, hkd] at hee
    rcases hf e i he hi hne hee (by simp [isPure, hkd]) with h | h
    · exact ⟨fun _ => F.lt i hi e h, fun _ => h1 e he hee h⟩
    · have := F.lt e he i h
      have := h2 e he hee h
      exact ⟨fun h => by omega, fun h => by omega⟩
  rw [e]
  obtain ⟨g, hg', hst, _, _⟩ := T.step i (Nat.zero_le _) hi
  rw [hg] at hg'; injection hg' with hg'; subst hg'
  obtain ⟨ob, hst, hob⟩ := hst rfl
  have h1 := astep_read hkd hst
  rw [h1] at hst
  exact ⟨ob, hst, hob⟩
theorem ready_spec {listed : Array Bool} {i : Nat} (h : i ∈ Region.ready .any ops listed) : i < ops.size ∧ listed.getD i true = false ∧ ∀ d ∈ directs (opAt ops i), listed.getD d false = true := by
  unfold Region.ready at h
  rw [List.mem_filter] at h
  obtain ⟨h1, h2⟩ := h
  have hi := List.mem_range.1 h1
  simp only [Bool.and_eq_true, Bool.not_eq_true'] at h2
  refine ⟨hi, h2.1, fun d hd => ?_⟩
  have h3 := h2.2
  rw [Array.getElem?_eq_getElem hi] at h3
  simp only [Option.map_some, Option.getD_some] at h3
  unfold directs opAt at hd
  rw [Array.getD_eq_getD_getElem?, Array.getElem?_eq_getElem hi] at hd
  simp only [Option.getD_some, List.mem_map, List.mem_filter] at hd
  obtain ⟨e, ⟨he1, he2⟩, rfl⟩ := hd
  have h4 := Array.all_eq_true'.1 h3 e (Array.mem_toList_iff.1 he1)
  simp only [he2, Bool.not_true, Bool.false_or] at h4
  exact h4
theorem ready_nil (F : RegFacts C ops B) {listed : Array Bool} (hs : listed.size = ops.size) (h : Region.ready .any ops listed = []) : ∀ i, i < ops.size → listed.getD i false = true := by
  intro i
  induction i using Nat.strongRecOn with
  | _ i ih =>
    intro hi
    cases hl : listed.getD i false with
    | true => rfl
    | false =>
      exfalso
      have : i ∈ Region.ready .any ops listed := by
        unfold Region.ready
        rw [List.mem_filter]
        refine ⟨List.mem_range.2 hi, ?_⟩
        simp only [Bool.and_eq_true, Bool.not_eq_true']
        refine ⟨?_, ?_⟩
        · rw [Array.getD_eq_getD_getElem?, Array.getElem?_eq_getElem (by omega)] at hl ⊢
          exact hl
        · rw [Array.getElem?_eq_getElem hi]
          simp only [Option.map_some, Option.getD_some]
          refine Array.all_eq_true'.2 fun e he => ?_
          cases hb : Region.binds .any e with
          | false => rfl
          | true =>
            have hd : e.on ∈ directs (opAt ops i) := by
              unfold directs opAt
              rw [Array.getD_eq_getD_getElem?, Array.getElem?_eq_getElem hi]
              simp only [Option.getD_some, List.mem_map, List.mem_filter]
              exact ⟨e, ⟨Array.mem_toList_iff.2 he, hb⟩, rfl⟩
            have hlt := F.dir i hi e.on hd
            simp [ih e.on hlt (by omega)]
      rw [h] at this
      cases this
theorem trel_congr {w : World} {Y : Nat → Prop} {β : List BI} {Hh : List Blk} {a : Act} {ρ1 ρ2 : List (Nat × AV)} (h : ∀ t, getA ρ1 t = getA ρ2 t) (T : TRel w Y β Hh a ρ1) : TRel w Y β Hh a ρ2 := fun t => by rw [← h t]; exact T t
theorem wpAny_of_trace (hS : SigOK C) (hd : ∀ i, i < ops.size → ∀ d, (opAt ops i).dst = some d → d < N) (T : Trace C ops 0 st v ρ H) (F : RegFacts C ops B) (hstab : Stable C ops B v ρ H) {Q : Exit → Act → World → Prop}
    (hQ : ∀ a' w', Rel C N X w0 β0 H0 ⟨ρ ops.size, H ops.size⟩ a' w' → Q .normal a' w') : ∀ (fuel : Nat) (listed : Array Bool) (ρS : List (Nat × AV)) (HS : List Blk) (a : Act) (w : World), listed.size = ops.size →
      Inv C ops B v ρ H (fun i => listed.getD i false = true) ρS HS → (List.range ops.size).countP (fun i => !listed.getD i false) ≤ fuel → Rel C N X w0 β0 H0 ⟨ρS, HS⟩ a w → wpAny C.P .any ops Q fuel listed a w := by
  -- where all has been done
  have done : ∀ (listed : Array Bool) (ρS : List (Nat × AV)) (HS : List Blk) (a : Act) (w : World), Inv C ops B v ρ H (fun i => listed.getD i false = true) ρS HS → (∀ i, i < ops.size → listed.getD i false = true) → Rel C N X w0 β0 H0 ⟨ρS, HS⟩ a w → Q .normal a w := by
    intro listed ρS HS a w I hall hr
    obtain ⟨β, R, S0, Tr, G, hN, hdef⟩ := hr
    have hH : HS = H ops.size := I.heap ops.size (Nat.le_refl _) fun i hi _ => ⟨fun _ => hi, fun _ => hall i hi⟩
    subst hH
    refine hQ a w ⟨β, R, S0, trel_congr (fun t => ?_) Tr, G, hN, hdef⟩
    by_cases hex : ∃ j, j < ops.size ∧ (opAt ops j).dst = some t
    · obtain ⟨j, hj, hdj⟩ := hex
      rw [I.val j hj (hall j hj) t hdj, tr_val T F ops.size (Nat.le_refl _) j t hj hdj]
    · rw [I.rest t fun k hk _ hdk => hex ⟨k, hk, hdk⟩, tr_rest T ops.size (Nat.le_refl _) t fun k hk hdk => hex ⟨k, hk, hdk⟩]
  intro fuel
  induction fuel with
  | zero =>
    intro listed ρS HS a w hs I hc hr
    have hall : ∀ i, i < ops.size → listed.getD i false = true := by
      intro i hi
      have h0 : (List.range ops.size).countP (fun i => !listed.getD i false) = 0 := by omega
      rw [List.countP_eq_zero] at h0
      have := h0 i (List.mem_range.2 hi)
      simpa using this
    refine ⟨?_, done listed ρS HS a w I hall hr⟩
    cases hrd : Region.ready .any ops listed with
    | nil => rfl
    | cons i r =>
      obtain ⟨h1, h2, _⟩ := ready_spec (ops := ops) (listed := listed) (i := i) (by rw [hrd]; simp)
      have := hall i h1
      rw [Array.getD_eq_getD_getElem?, Array.getElem?_eq_getElem (by omega), Option.getD_some] at h2 this
      rw [h2] at this
      cases this
  | succ fuel ih =>
    intro listed ρS HS a w hs I hc hr
    refine ⟨fun hnil => done listed ρS HS a w I (ready_nil F hs hnil) hr, fun i hi => ?_⟩
    obtain ⟨hlt, hun, hdir⟩ := ready_spec hi
    have hL : ¬ (listed.getD i false = true) := by
      rw [Array.getD_eq_getD_getElem?, Array.getElem?_eq_getElem (by omega), Option.getD_some] at hun ⊢
      rw [hun]
      simp
    have hlook := inv_looks T F I hlt hL hdir
    obtain ⟨β, R, S0, Tr, G, hN, hdef⟩ := hr
    obtain ⟨g, hg, hst, hsk, _⟩ := T.step i (Nat.zero_le _) hlt
    have hg' : wantG ops ρS (opAt ops i) = some g := by rw [wantG_congr hlook]; exact hg
    have hw := wantG_sound Tr hg'
    have hget : ops[i]? = some (opAt ops i) := by
      unfold opAt
      rw [Array.getD_eq_getD_getElem?, Array.getElem?_eq_getElem hlt]
      rfl
    -- on to the next
    have next : ∀ (HS' : List Blk) (a' : Act) (w' : World), ((isEff C (opAt ops i) = true → HS' = H (i + 1)) ∧ (isEff C (opAt ops i) = false → HS' = HS)) → Rel C N X w0 β0 H0 ⟨putA ρS (opAt ops i).dst (v i), HS'⟩ a' w' →
        wpAny C.P .any ops Q fuel (listed.setIfInBounds i true) a' w' := by
      intro HS' a' w' hH hr'
      have hset : ∀ j, (listed.setIfInBounds i true).getD j false = true ↔ (j = i ∨ listed.getD j false = true) := by
        intro j
        by_cases e : j = i
        · subst e
          simp [Array.getD_eq_getD_getElem?, show j < listed.size by omega]
        · simp [Array.getD_eq_getD_getElem?, Array.getElem?_setIfInBounds_ne (fun h => e h.symm), e]
      refine ih _ _ HS' a' w' (by simpa using hs) ?_ ?_ hr'
      · have := inv_next T F I hlt hL hdir hH
        refine ⟨fun j hj hl x hx => (hset x).2 (this.clo j hj ((hset j).1 hl) x hx), fun j hj hl => this.val j hj ((hset j).1 hl), fun t ht => this.rest t fun j hj hl => ht j hj ((hset j).2 hl), fun k hk hsep => this.heap k hk fun j hj he => ?_⟩
        rw [← hsep j hj he]
        exact (hset j).symm
      · have key : (List.range ops.size).countP (fun j => !(listed.setIfInBounds i true).getD j false) + 1 ≤ (List.range ops.size).countP (fun j => !listed.getD j false) := by
          have h1 : ∀ l : List Nat, i ∈ l → l.countP (fun j => !(listed.setIfInBounds i true).getD j false) + 1 ≤ l.countP (fun j => !listed.getD j false) := by
            have h0 : ∀ l : List Nat, l.countP (fun j => !(listed.setIfInBounds i true).getD j false) ≤ l.countP (fun j => !listed.getD j false) := fun l => List.countP_mono_left fun j _ hj => by
              simp only [Bool.not_eq_true', Bool.eq_false_iff] at hj ⊢
              exact fun h => hj ((hset j).2 (.inr h))
            intro l hl
            induction l with
            | nil => cases hl
            | cons j r ihl =>
              rw [List.countP_cons, List.countP_cons]
              by_cases e : j = i
              · subst e
                have e1 : (!(listed.setIfInBounds j true).getD j false) = false := by rw [(hset j).2 (.inl rfl)]; rfl
                have e2 : (!listed.getD j false) = true := by simpa using hL
                rw [e1, e2]
                have := h0 r
                simp only [if_true, Bool.false_eq_true, if_false]
                omega
              · have := ihl (by simpa [Ne.symm e] using hl)
                have hj : (!(listed.setIfInBounds i true).getD j false) = !listed.getD j false := by
                  have := hset j
                  simp only [e, false_or] at this
                  cases h1 : (listed.setIfInBounds i true).getD j false <;> cases h2 : listed.getD j false <;> simp_all
                rw [hj]
                omega
          exact h1 _ (List.mem_range.2 hlt)
        omega
    unfold wpOp
    rw [hget]
    simp only
    rw [hw]
    cases g with
    | true =>
      rw [if_pos rfl]
      obtain ⟨ob, hst, hob⟩ := hst rfl
      have hcg : astep C ⟨ρS, H i⟩ (opAt ops i) = some (ob, v i, H (i + 1)) := by rw [astep_congr (looks_aev hlook)]; exact hst
      refine .inl ?_
      cases hk : kindOf C (opAt ops i) with
      | pure =>
        obtain ⟨h1, h2⟩ := astep_pure hk hcg
        exact astep_sound hS R Tr G (h2 HS) hob fun u w' β' R' S hr => next HS _ _ ⟨fun h => by simp [isEff, hk] at h, fun _ => rfl⟩ (rel_put S0 Tr G hN hdef R' S hr _ (hd i hlt))
      | read =>
        obtain ⟨k, hkn, hcut⟩ := cut_of F I.clo ops.size (Nat.le_refl _)
        have hH : HS = H k := I.heap k hkn hcut
        have hB := behind F I.clo hlt hdir
        obtain ⟨ob, hst', hob⟩ := hstab i k hlt hkn hk hg (fun e he hee h => (hcut e he hee).1 (hB e h)) (fun e he hee h => by
          rcases Nat.lt_or_ge e k with h1 | h1
          · exact absurd (I.clo e he ((hcut e he hee).2 h1) i h) hL
          · exact h1)
        have hcg : astep C ⟨ρS, HS⟩ (opAt ops i) = some (ob, v i, HS) := by rw [hH, astep_congr (looks_aev hlook)]; exact hst'
        exact astep_sound hS R Tr G hcg hob fun u w' β' R' S hr => next HS _ _ ⟨fun h => by simp [isEff, hk] at h, fun _ => rfl⟩ (rel_put S0 Tr G hN hdef R' S hr _ (hd i hlt))
      | eff =>
        have hH : HS = H i := I.heap i (by omega) (inv_heap F I hlt hL hdir (by simp [isEff, hk]))
        rw [← hH] at hcg
        exact astep_sound hS R Tr G hcg hob fun u w' β' R' S hr => next _ _ _ ⟨fun _ => rfl, fun h => by simp [isEff, hk] at h⟩ (rel_put S0 Tr G hN hdef R' S hr _ (hd i hlt))
    | false =>
      rw [if_neg (by simp)]
      obtain ⟨hv, hHi⟩ := hsk rfl
      refine next HS _ _ ⟨fun h => ?_, fun _ => rfl⟩ ?_
      · rw [hHi]
        exact I.heap i (by omega) (inv_heap F I hlt hL hdir h)
      · rw [hv]
        exact rel_put S0 Tr G hN hdef R (StepR.refl _ _ _ R.len) rep_skip _ (hd i hlt)
end
end Go.Proofs.YtgjljfbohpnfcaaGreat
