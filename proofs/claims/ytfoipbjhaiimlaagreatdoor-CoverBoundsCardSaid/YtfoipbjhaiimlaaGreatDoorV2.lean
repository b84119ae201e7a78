/-
  Texts joined.
-/
import Derived.Test.YtfoipbjhaiimlaaGreatDoorV1
import Derived.Laws.OwnMore
import Derived.Orders
namespace Go.Proofs.YtfoipbjhaiimlaaGreatDoor
open List (all_eq_true append_assoc getElem?_append_left getElem?_append_right getElem?_drop getElem?_eq_getElem getElem?_map getElem?_set_ne getElem?_set_self getElem?_take getElem_mem getElem_of_mem length_append length_drop length_eq_zero_iff length_take map_cons map_nil map_toArray mem_append mem_cons_of_mem mem_filter mem_flatMap mem_map mem_of_getElem? mem_of_mem_drop mem_of_mem_take mem_range)
open Option (getD_some map_eq_some_iff map_some)
open Nat (add_comm add_mul add_zero eq_zero_or_pos le_refl lt_irrefl lt_of_lt_of_le lt_or_ge mod_lt mul_le_mul_right pos_of_ne_zero sub_mul zero_add zero_le zero_mul)
noncomputable section
set_option maxHeartbeats 16000000
open Go.RowKit
section
variable {C : Ctx} {w : World} {X : Nat -> Prop} {β : List BI} {H : List Blk}
theorem nH {s : ByteArray} {i : Nat} {r : List AV} (h : (dI s)[i]? = some r) : ∃ hi : i < s.data.size, r = [.int .u8 ((s.data[i]'hi).toNat : Int)] := by
 unfold dI at h
 rw [getElem?_map] at h
 simp only [Array.getElem?_toList, map_eq_some_iff] at h
 obtain ⟨c, hc, rfl⟩ := h
 obtain ⟨hi, rfl⟩ := Array.getElem?_eq_some_iff.1 hc
 exact ⟨hi, rfl⟩
theorem dQ (s : ByteArray) : (dI s).length = s.size := by
 unfold dI
 simp
theorem Av (hX : ∀ b, X b -> b < w.heap.size) {src dst : TypeId} {x : AV} {ob : Prop} {r : AV} (h : AL C src dst x = some (ob, r)) (hob : ob) {vx : Value} (hx : Rep w X β H vx x) :
  ∃ u w', (convert src dst vx).run C.P w = .ok u w' /\ Keeps (λ _ => False) w w' /\ Rep w' X β H u r := by
 unfold AL at h
 split at h
 ·obtain rfl := bB hx
  split at h
  ·rename_i k k' h1 h2
   injection h with h; injection h with e1 e2; subst e1 e2
   refine ⟨_, w, ?_, Keeps.refl _ _, .deep (.int _ _)⟩
   simp [convert, run_underlying (jH h1), run_underlying (jH h2), Conv.intToInt]
  ·cases h
 ·rename_i s
  obtain rfl := gD hx
  split at h
  ·rename_i hs
   simp only [Bool.and_eq_true] at hs
   injection h with h; injection h with e1 e2; subst e1 e2
   refine ⟨_, w, ?_, Keeps.refl _ _, .deep (.str _)⟩
   simp [convert, run_underlying (dd hs.1), run_underlying (dd hs.2)]
  ·split at h
   ·rename_i e he
    split at h
    ·rename_i hs
     simp only [Bool.and_eq_true] at hs
     injection h with h; injection h with e1 e2; subst e1 e2
     have h8 := oO hs.2
     have hr := run_bytes_of_string (P := C.P) w src dst e s (dd hs.1) (bC he) h8
     have hge := grownCap_ge w s.size 0 e
     have hle := grownCap_le_maxLen w s.size 0 e (by unfold maxLen; omega)
     generalize grownCap w s.size 0 e = cap at *
     refine ⟨_, _, hr, (Keeps.drew _ w).trans (Keeps.alloc (λ _ => False) w.drew _) (λ _ _ h => h), .deep ?_⟩
     have hsz : w.drew.heap.size = w.heap.size := rfl
     refine .slice 1 false _ _ _ _ (λ i _ => .int .u8 (btA s i)) (dQ s).symm (by rw [dQ]; exact hge) hle (λ h => by cases h) (λ r hr => ?_) (λ _ => ?_) (λ i j r v hi hj => ?_)
     ·unfold dI at hr
      obtain ⟨c, _, rfl⟩ := mem_map.1 hr
      rfl
     ·refine ⟨w.heap.size, 0, rfl, by simp, λ hx => lt_irrefl _ (hX _ hx), λ i j hi hj => ⟨?_, rfl⟩⟩
      rw [dQ] at hi
      have hi' : i < s.data.size := hi
      have hh : (w.drew.alloc (.cells (bytesRow s cap) e ((bytesRow s cap).size, (bytesRow s cap).size + 1))).heap[w.heap.size]? = some (.cells (bytesRow s cap) e ((bytesRow s cap).size, (bytesRow s cap).size + 1)) := by
       show (w.heap.push _)[w.heap.size]? = _
       simp
      rw [show 0 + i * 1 + j = i by omega, cell_of_row _ _ _ _ _ _ hh, bytesRow_at s cap i hi']
      rw [<- (IH hi).2]
      rfl
     ·obtain ⟨hi', rfl⟩ := nH hi
      match j with
      | 0 =>
       simp at hj
       subst hj
       have := (IH (s := s) (j := i) hi').2
       have e : ((s.data[i]'hi').toNat : Int) = btA s i := by rw [<- this]; rfl
       rw [e]
       exact .int _ _
      | j + 1 => simp at hj
    ·cases h
   ·cases h
 ·cases h
theorem cm (ρ : List (Nat × AV)) : ∀ (xs : List Operand) (ts : List TypeId), (cg C ρ xs ts).length = xs.length
 | [], _ => rfl
 | x :: r, t :: q => by simp [cg, cm ρ r q]
 | x :: r, [] => by simp [cg, cm ρ r []]
theorem fA {a : Act} {ρ : List (Nat × AV)} (T : ju w X β H a ρ) (G : nQ C w X) : ∀ (xs : List Operand) (ts : List TypeId) (j : Nat) (u : AV), (cg C ρ xs ts)[j]? = some u -> ∃ x, xs[j]? = some x /\ Rep w X β H (a.eval x) u
 | [], ts, j, u, h => by cases ts <;> simp [cg] at h
 | x :: r, [], j, u, h => by
  match j with
  | 0 => simp [cg] at h; subst h; exact ⟨x, rfl, bq T G _ x⟩
  | j + 1 => simp [cg] at h; exact fA T G r [] j u h
 | x :: r, t :: q, j, u, h => by
  match j with
  | 0 => simp [cg] at h; subst h; exact ⟨x, rfl, bq T G _ x⟩
  | j + 1 => simp [cg] at h; exact fA T G r q j u h
theorem sW {a : Act} {ρ : List (Nat × AV)} {t : TypeId} {lo : Option Operand} (h : lo.map (aev C ρ t) = none) : lo.map a.eval = none := by
 cases lo with
 | none => rfl
 | some x => cases h
theorem tq {a : Act} {ρ : List (Nat × AV)} (T : ju w X β H a ρ) (G : nQ C w X) {t : TypeId} {lo : Option Operand} (u : AV) (h : lo.map (aev C ρ t) = some u) : ∃ v, lo.map a.eval = some v /\ Rep w X β H v u := by
 cases lo with
 | none => cases h
 | some x => injection h with h; subst h; exact ⟨_, rfl, bq T G _ x⟩
theorem IZ {n : Int} (h : I64 n) : (Lit.int .i64 n).wf = true := by
 unfold I64 at h
 simp only [Lit.wf, Bool.and_eq_true, decide_eq_true_eq]
 exact ⟨h.1, h.2⟩
theorem Mr {P : Program} {k : TypeId} (hk : P.underlying k = some .string) {s : ByteArray} (hs : s.size <= maxLen) : keyOf P k (.string s) = some (.string s.data.toList) :=
 Go.WideMaps.keyOf_string_mk hk hs
theorem vT {P : Program} {k : TypeId} {x : AV} {ob : Prop} {kl : Lit} (h : rx P k x = some (ob, kl)) (hob : ob) {v : Value} (hv : Rep w X β H v x) : Maps.Keyed P k /\ keyOf P k v = some kl /\ WideAt.IsKeyLit kl := by
 unfold rx at h
 split at h
 ·obtain rfl := ct hv
  split at h
  ·rename_i ht
   injection h with h; injection h with e1 e2; subst e1 e2
   exact ⟨Maps.bool_keyed (j7 ht), Maps.keyOf_bool_mk (j7 ht) _, trivial⟩
  ·cases h
 ·obtain rfl := bB hv
  split at h
  ·rename_i ht
   injection h with h; injection h with e1 e2; subst e1 e2
   exact ⟨Maps.int_keyed (jH ht), Maps.keyOf_int_mk (jH ht) (IZ hob), trivial⟩
  ·cases h
 ·obtain rfl := gD hv
  split at h
  ·rename_i ht
   injection h with h; injection h with e1 e2; subst e1 e2
   exact ⟨Maps.string_keyed (dd ht), Mr (dd ht) hob, trivial⟩
  ·cases h
 ·cases h
theorem B3 {P : Program} {e : TypeId} {x : AV} {ob : Prop} {l : Lit} (h : rx P e x = some (ob, l)) (hob : ob) {v : Value} (hv : Rep w X β H v x) : plainElem (H := Unit) P e v = some (.lit l, []) := by
 unfold rx at h
 split at h
 ·obtain rfl := ct hv
  split at h
  ·rename_i ht
   injection h with h; injection h with e1 e2; subst e1 e2
   exact plainElem_bool (j7 ht) _
  ·cases h
 ·obtain rfl := bB hv
  split at h
  ·rename_i ht
   injection h with h; injection h with e1 e2; subst e1 e2
   exact plainElem_int (jH ht) (IZ hob)
  ·cases h
 ·obtain rfl := gD hv
  split at h
  ·rename_i ht
   injection h with h; injection h with e1 e2; subst e1 e2
   exact plainElem_string (dd ht) hob
  ·cases h
 ·cases h
theorem nF {P : Program} {e : TypeId} {v : Value} {l : Lit} {ps : List MemPlace} (h : plainElem (H := Unit) P e v = some (.lit l, ps)) : Rep w X β H v (Et l) := by
 unfold plainElem at h
 split at h
 ·injection h with h; injection h with h _; injection h with h; subst h; exact .deep (.bool _)
 ·split at h
  ·rename_i hq
   injection h with h; injection h with h _; injection h with h; subst h
   rw [hq.1]
   exact .deep (.int _ _)
  ·cases h
 ·split at h
  ·injection h with h; injection h with h _; injection h with h; subst h
   exact .deep (.str _)
  ·cases h
 ·cases h
theorem HG {P : Program} {e : TypeId} {z : Lit} (h : EP P e = some z) : ∃ zv, (zeroValue e).run P w = .ok zv w /\ plainElem (H := Unit) P e zv = some (.lit z, []) := by
 unfold EP at h
 cases hi : P.info? e with
 | none => rw [hi] at h; cases h
 | some i =>
  rw [hi] at h
  simp only [Option.bind_some] at h
  split at h
  ·rename_i hz
   split at h
   ·rename_i ht
    injection h with h; subst h
    exact ⟨_, by simp [zeroValue, typeInfo, hi, hz], plainElem_bool (j7 ht) _⟩
   ·cases h
  ·rename_i k n hz
   split at h
   ·rename_i ht
    obtain ⟨rfl, ht⟩ := ht
    injection h with h; subst h
    exact ⟨_, by simp [zeroValue, typeInfo, hi, hz], plainElem_int (jH ht) (by cases k <;> decide)⟩
   ·cases h
  ·rename_i s hz
   split at h
   ·rename_i ht
    obtain ⟨hs, ht⟩ := ht
    injection h with h; subst h
    refine ⟨.string s, by simp [zeroValue, typeInfo, hi, hz], ?_⟩
    rw [plainElem_string (dd ht) (hs ▸ zero_le _)]
    have : s.data.toList = [] := length_eq_zero_iff.1 (by rw [Array.length_toList]; exact hs)
    rw [this]
   ·cases h
  ·cases h
theorem Aa (G : nQ C w X) {t : TypeId} {m x : AV} {ok : Bool} {ob : Prop} {r : AV} (h : zh C t m x ok = some (ob, r)) (hob : ob) {vm vx : Value} (hm : Rep w X β H vm m) (hx : Rep w X β H vx x) :
  ∃ u, (Instr.lookup t vm vx ok).run C.P w = .ok u w /\ Rep w X β H u r := by
 unfold zh at h
 split at h
 ·rename_i b
  obtain rfl := tQ hm
  split at h
  ·rename_i k e L hg
   split at h
   ·rename_i ht
    split at h
    ·rename_i ob' kl z hl hz
     injection h with h; injection h with e1 e2; subst e1 e2
     have hG := G b
     rw [hg] at hG
     obtain ⟨⟨D, o1, o2, o3, o4, o5⟩, _⟩ := hG
     obtain ⟨K, hk, _⟩ := vT hl hob hx
     obtain ⟨zv, hz1, hz2⟩ := HG (w := w) hz
     cases ok with
     | false =>
      obtain ⟨v, ps, h1, h2⟩ := o1.lookup K (sG ht) hz1 hz2 hk
      rw [o3] at h2
      exact ⟨v, h1, nF h2⟩
     | true =>
      obtain ⟨v, ps, h1, h2⟩ := o1.look_ok K (sG ht) hz1 hz2 hk
      rw [o3] at h2
      refine ⟨_, h1, .tup _ _ (λ j => if j = 0 then v else .bool (Maps.has D kl)) rfl (λ j hj => ?_) (λ j u hu => ?_)⟩
      ·rcases j with _ | _ | j
       ·rfl
       ·rfl
       ·simp at hj; omega
      ·rcases j with _ | _ | j
       ·simp at hu; subst hu; exact nF h2
       ·simp at hu; subst hu; rw [<- o4]; exact .deep (.bool _)
       ·simp at hu
    ·cases h
   ·cases h
  ·cases h
 ·cases h
theorem Bp {a : Act} {ρ : List (Nat × AV)} (T : ju w X β H a ρ) (G : nQ C w X) (hX : ∀ b, X b -> b < w.heap.size) {o : Oper} {ob : Prop} {r : AV} (h : pA C ρ o = some (ob, r)) (hob : ob) :
  ∃ u w', (execOp a.eval o).run C.P w = .ok (.value u) w' /\ Keeps (λ _ => False) w w' /\ Rep w' X β H u r := by
 have E := λ t x => bq (C := C) T G t x
 obtain ⟨dst, op, type, pos, after, guard⟩ := o
 unfold pA at h
 simp only at h
 split at h
 ·injection h with h; injection h with e1 e2; subst e1 e2
  exact ⟨_, w, rfl, Keeps.refl _ _, E _ _⟩
 ·injection h with h; injection h with e1 e2; subst e1 e2
  exact ⟨_, w, rfl, Keeps.refl _ _, E _ _⟩
 ·rename_i c x y
  obtain ⟨b, hb, hr⟩ := BA h (E _ c) (E _ x) (E _ y)
  refine ⟨_, w, ?_, Keeps.refl _ _, hr⟩
  simp only [execOp, hb, asBool, Sem.run_bind, Sem.run_pure, Result.andThen_ok]
 ·rename_i op t x y ty
  split at h
  ·rename_i hn
   have hy : y = .const (.slice none 0 0) := by unfold oz at hn; split at hn <;> first | rfl | cases hn
   subst hy
   obtain ⟨u, h1, h2⟩ := zH h (E _ x) x (.const (.slice none 0 0))
   refine ⟨u, w, ?_, Keeps.refl _ _, h2⟩
   simp only [execOp, Sem.run_bind] at h1 ⊢
   rw [show a.eval (.const (.slice none 0 0)) = .slice none 0 0 from rfl, h1]
   rfl
  ·obtain ⟨u, h1, h2⟩ := Dt h hob (E _ x) (E _ y) x y
   refine ⟨u, w, ?_, Keeps.refl _ _, h2⟩
   simp only [execOp, Sem.run_bind] at h1 ⊢
   rw [h1]
   rfl
 ·rename_i op t x
  obtain ⟨u, h1, h2⟩ := GG (C := C) h (E _ x)
  refine ⟨u, w, ?_, Keeps.refl _ _, h2⟩
  simp only [execOp, Sem.run_bind, h1, Result.andThen_ok, Sem.run_pure]
 ·rename_i src dst x
  obtain ⟨u, w', h1, h2, h3⟩ := Av hX h hob (E _ x)
  refine ⟨u, w', ?_, h2, h3⟩
  simp only [execOp, Sem.run_bind, h1, Result.andThen_ok, Sem.run_pure]
 ·rename_i t x k
  obtain ⟨u, h1, h2⟩ := yP h hob (E _ x)
  refine ⟨u, w, ?_, Keeps.refl _ _, h2⟩
  simp only [execOp, Sem.run_bind, h1, Result.andThen_ok, Sem.run_pure]
 ·rename_i t x k
  obtain ⟨u, h1, h2⟩ := qf h (E _ x)
  refine ⟨u, w, ?_, Keeps.refl _ _, h2⟩
  simp only [execOp, Sem.run_bind, h1, Result.andThen_ok, Sem.run_pure]
 ·rename_i t x ix
  obtain ⟨u, h1, h2⟩ := rb h hob (E _ x) (E _ ix)
  refine ⟨u, w, ?_, Keeps.refl _ _, h2⟩
  simp only [execOp, Sem.run_bind, h1, Result.andThen_ok, Sem.run_pure]
 ·rename_i t x ix
  obtain ⟨u, h1, h2⟩ := wX h hob (E _ x) (E _ ix)
  refine ⟨u, w, ?_, Keeps.refl _ _, h2⟩
  simp only [execOp, Sem.run_bind, h1, Result.andThen_ok, Sem.run_pure]
 ·rename_i t x lo hi mx
  obtain ⟨u, h1, h2⟩ := yI h hob (E _ x) (vlo := lo.map a.eval) (vhi := hi.map a.eval) (vmx := mx.map a.eval) sW (tq T G) sW (tq T G) sW (tq T G)
  refine ⟨u, w, ?_, Keeps.refl _ _, h2⟩
  simp only [execOp, Sem.run_bind, h1, Result.andThen_ok, Sem.run_pure]
 ·rename_i x k
  split at h
  ·rename_i vs hvs
   split at h
   ·rename_i v hv
    injection h with h; injection h with e1 e2; subst e1 e2
    have hx := E 0 x
    rw [hvs] at hx
    obtain ⟨cs, val, h1, hl, hm, hr⟩ := oP hx
    refine ⟨val k, w, ?_, Keeps.refl _ _, hr k _ hv⟩
    simp only [execOp, h1, Instr.extract, hm k (List.getElem?_eq_some_iff.1 hv).1, Sem.run_bind, Result.andThen_ok, Sem.run_pure]
   ·cases h
  ·cases h
 ·rename_i f first cap
  split at h
  ·rename_i h0
   injection h with h; injection h with e1 e2; subst e1 e2
   have hf : first = #[] := Array.eq_empty_of_size_eq_zero h0
   subst hf
   refine ⟨.func (.func f) #[] (cap.map a.eval), w, ?_, Keeps.refl _ _, ?_⟩
   ·simp [execOp, Instr.makeFunc]
   ·refine .fn f _ _ (λ j => (cap.map a.eval).getD j undef) (by simp) (λ j hj => ?_) (λ j v hj => ?_)
    ·simp at hj
     simp [Array.getD_eq_getD_getElem?, hj]
    ·rw [getElem?_map] at hj
     simp only [Array.getElem?_toList, map_eq_some_iff] at hj
     obtain ⟨x, hx, rfl⟩ := hj
     simp only [Array.getD_eq_getD_getElem?, Array.getElem?_map, hx, map_some, getD_some]
     exact E 0 x
  ·cases h
 ·rename_i x
  have hx := E 0 x
  split at h
  ·rename_i hv
   injection h with h; injection h with e1 e2; subst e1 e2
   rw [hv] at hx
   have hx' := hx
   obtain ⟨ad, b, h1, _⟩ := gB hx'
   refine ⟨_, w, ?_, Keeps.refl _ _, hx⟩
   simp only [execOp, h1, Sem.run_pure]
  ·rename_i cs hv
   injection h with h; injection h with e1 e2; subst e1 e2
   rw [hv] at hx
   obtain ⟨b, o, h1⟩ := mP (jl hx)
   refine ⟨_, w, ?_, Keeps.refl _ _, hx⟩
   simp only [execOp, h1, Sem.run_pure]
  ·rename_i f cap hv
   injection h with h; injection h with e1 e2; subst e1 e2
   rw [hv] at hx
   have hx' := hx
   obtain ⟨cs, val, h1, _⟩ := tI hx'
   refine ⟨_, w, ?_, Keeps.refl _ _, hx⟩
   simp only [execOp, h1, Sem.run_pure]
  ·cases h
 ·rename_i t parts
  obtain ⟨u, h1, h2⟩ := yG T G h
  refine ⟨u, w, ?_, Keeps.refl _ _, h2⟩
  simp only [execOp, Sem.run_bind, h1, Result.andThen_ok, Sem.run_pure]
 ·rename_i t m x ok
  obtain ⟨u, h1, h2⟩ := Aa G h hob (E t m) (E 0 x)
  refine ⟨u, w, ?_, Keeps.refl _ _, h2⟩
  simp only [execOp, Sem.run_bind, h1, Result.andThen_ok, Sem.run_pure]
 ·rename_i c
  obtain ⟨callee, args, argTypes⟩ := c
  simp only at h
  split at h
  ·split at h
   ·rename_i x t hx ht
    obtain rfl : args = #[x] := by rw [<- Array.toList_inj, hx]
    obtain rfl : argTypes = #[t] := by rw [<- Array.toList_inj, ht]
    obtain ⟨u, h1, h2⟩ := Dg G h (E t x) type
    refine ⟨u, w, ?_, Keeps.refl _ _, h2⟩
    simp only [execOp, resolve, invoke, builtin, Sem.run_bind, Sem.run_pure, Result.andThen_ok, map_toArray, map_cons, map_nil, h1]
   ·cases h
  ·split at h
   ·rename_i v hv
    injection h with h; injection h with e1 e2; subst e1 e2
    obtain ⟨u, h1, h2⟩ := Ck (C := C) hv (vs := args.toList.map a.eval) (by simp [cm]) (λ j u v hu hv => by
     obtain ⟨x, hx, hr⟩ := fA T G _ _ j u hu
     rw [getElem?_map, hx] at hv
     injection hv with hv; subst hv
     exact hr) argTypes type
    refine ⟨u, w, ?_, Keeps.refl _ _, h2⟩
    have e : args.map a.eval = (args.toList.map a.eval).toArray := by rw [<- Array.toList_inj]; simp
    simp only [execOp, resolve, invoke, builtin, Sem.run_bind, Sem.run_pure, Result.andThen_ok, e, h1]
   ·cases h
  ·split at h
   ·rename_i v hv
    injection h with h; injection h with e1 e2; subst e1 e2
    obtain ⟨u, h1, h2⟩ := DF (C := C) hv (vs := args.toList.map a.eval) (by simp [cm]) (λ j u v hu hv => by
     obtain ⟨x, hx, hr⟩ := fA T G _ _ j u hu
     rw [getElem?_map, hx] at hv
     injection hv with hv; subst hv
     exact hr) argTypes type
    refine ⟨u, w, ?_, Keeps.refl _ _, h2⟩
    have e : args.map a.eval = (args.toList.map a.eval).toArray := by rw [<- Array.toList_inj]; simp
    simp only [execOp, resolve, invoke, builtin, Sem.run_bind, Sem.run_pure, Result.andThen_ok, e, h1]
   ·cases h
  ·cases h
 ·cases h
end
def XL (X : Nat -> Prop) (β : List BI) (H : List Blk) (L : Nat -> Prop) (b : Nat) : Prop := X b ∨ ∃ (l c : Nat) (blk : Blk), β[l]? = some (BI.lies b c) /\ H[l]? = some blk /\ blk.mu = true /\ ¬ L l
section
variable {C : Ctx} {w : World} {X : Nat -> Prop} {β : List BI} {H : List Blk}
theorem rO {L : Nat -> Prop} {b : Nat} (h : XL X β H L b) : Mu X β H b := by
 rcases h with h | ⟨l, c, blk, h1, h2, h3, _⟩
 ·exact .inl h
 ·exact .inr ⟨l, c, blk, h1, h2, h3⟩
theorem BN (R : HRel w X β H) {L : Nat -> Prop} {l b c : Nat} (hb : β[l]? = some (BI.lies b c)) (hl : L l) : ¬ XL X β H L b := by
 rintro (h | ⟨l', c', blk, h1, _, _, h4⟩)
 ·exact (R.lt l b c hb).2 h
 ·obtain rfl := R.inj l' l b c' c h1 hb
  exact h4 hl
theorem ff {v : Value} {av : AV} (hd : av.isDeep = true) (h : Rep w X β H v av) : RepD w X v av := by
 cases h with
 | deep h => exact h
 | own => cases hd
 | osl => cases hd
 | ptr => cases hd
 | agg => cases hd
 | tup => cases hd
 | fn => cases hd
theorem HRel.mu_lt (R : HRel w X β H) (b : Nat) (h : Mu X β H b) : b < w.heap.size := by
 rcases h with h | ⟨l, c, blk, h1, _, _⟩
 ·exact R.base b h
 ·exact (R.lt l b c h1).1
theorem mX {bk cap : Nat} {b : Blk} (h : BlkRep w (Mu X β H) β H (.lies bk cap) b) {i : Nat} (hi : i < b.rows.length) (f : Nat) {av : AV} {j : Nat} (hj : (b.rows[i].drop f)[j]? = some av) :
  ∃ v, w.cell? ⟨bk, i * b.sz + f + j, none⟩ = some v /\ v.oneCell' = true /\ Rep w (Mu X β H) β H v av /\ (b.deep = true -> RepD w (Mu X β H) v av) := by
 obtain ⟨cur, h1, h2, h3, h4, h5, h6, h7⟩ := h
 rw [getElem?_drop] at hj
 obtain ⟨v, k1, k2, k3, k4⟩ := h7 i (f + j) _ av (getElem?_eq_getElem hi) hj
 refine ⟨v, ?_, k2, k3, k4⟩
 rw [cell_of_row w bk _ cur b.e (0, 0) h1, Nat.add_assoc]
 exact k1
theorem bX (R : HRel w X β H) (L : Nat -> Prop) : ∀ (d : Nat) {v : Value} {av : AV}, Rep w (Mu X β H) β H v av -> (∀ l ∈ bI H d av, L l) -> RepD w (XL X β H L) v (bL H d av)
 | 0, v, av, h, _ => by
  unfold bL
  split
  ·rename_i hd
   exact (ff hd h).mono λ b _ hb => rO hb
  ·exact .undef _
 | d + 1, v, av, h, hL => by
  have ih := λ {v : Value} {av : AV} (h : Rep w (Mu X β H) β H v av) (hL : ∀ l ∈ bI H d av, L l) => bX R L d h hL
  unfold bL
  cases av with
  | own l n =>
   simp only
   obtain ⟨a, cap, b, rfl, hb, hn, h0, hx⟩ := gC h
   have hl : L l := hL l (by simp [bI])
   rw [hb]
   simp only
   split
   ·rename_i hlen
    have hx := hx hlen
    cases hβ : β[l]? with
    | none => rw [hβ] at hx; exact hx.elim
    | some bi =>
     rw [hβ] at hx
     have hB := R.blk l bi b hβ hb
     cases bi with
     | nil =>
      obtain ⟨rfl, rfl⟩ := hx
      have hrows : b.rows = [] := hB.1
      rw [hrows]
      simp only [map_nil, ite_self]
      exact .slice _ false [] _ _ _ (λ _ _ => undef) rfl (le_refl _) (zero_le _) (λ h => by cases h) (λ r h => by cases h) (λ h => absurd rfl h) (λ i j r v h => by simp at h)
     | lies bk c =>
      obtain ⟨rfl, rfl⟩ := hx
      have hB' := hB
      obtain ⟨cur, h1, h2, h3, h4, h5, h6, h7⟩ := hB
      have hrl : (if b.deep = true then b.rows else b.rows.map λ r => r.map (bL H d)).length = n := by split <;> simp [hlen]
      refine .slice b.sz false _ _ _ _ (λ i j => cur.getD (i * b.sz + j) undef) hrl.symm (by rw [hrl]; omega) h4 (λ h => by cases h) (λ r hr => ?_) (λ _ => ⟨bk, 0, rfl, (R.lt l bk cap hβ).1, BN R hβ hl, λ i j hi hj => ?_⟩) (λ i j r u hi hj => ?_)
      ·split at hr
       ·exact h6 r hr
       ·obtain ⟨r', hr', rfl⟩ := mem_map.1 hr
        rw [List.length_map]
        exact h6 r' hr'
      ·rw [hrl] at hi
       have hi' : i < b.rows.length := by omega
       have hrow : (b.rows[i]).length = b.sz := h6 _ (getElem_mem hi')
       obtain ⟨v, k1, k2, _⟩ := h7 i j _ _ (getElem?_eq_getElem hi') (getElem?_eq_getElem (show j < b.rows[i].length by omega))
       rw [show 0 + i * b.sz + j = i * b.sz + j by omega, cell_of_row w bk _ cur b.e (0, 0) h1, k1]
       have : cur.getD (i * b.sz + j) undef = v := by simp [Array.getD_eq_getD_getElem?, k1]
       rw [this]
       exact ⟨rfl, k2⟩
      ·split at hi
       ·rename_i hd
        obtain ⟨v, k1, k2, k3, k4⟩ := h7 i j r u hi hj
        have : cur.getD (i * b.sz + j) undef = v := by simp [Array.getD_eq_getD_getElem?, k1]
        rw [this]
        exact (k4 hd).mono λ b _ hb => rO hb
       ·rename_i hd
        rw [getElem?_map] at hi
        simp only [map_eq_some_iff] at hi
        obtain ⟨r', hr', rfl⟩ := hi
        rw [getElem?_map] at hj
        simp only [map_eq_some_iff] at hj
        obtain ⟨av', hav, rfl⟩ := hj
        obtain ⟨v, k1, k2, k3, k4⟩ := h7 i j r' av' hr' hav
        have : cur.getD (i * b.sz + j) undef = v := by simp [Array.getD_eq_getD_getElem?, k1]
        rw [this]
        refine ih k3 λ l' hl' => hL l' ?_
        simp only [bI, hb, hd]
        exact mem_cons_of_mem _ (mem_flatMap.2 ⟨r', mem_of_getElem? hr', mem_flatMap.2 ⟨av', mem_of_getElem? hav, hl'⟩⟩)
   ·exact .undef _
  | osl l n sz off len =>
   simp only
   obtain ⟨a, cap, b, rfl, hb, hn, hle, h0, hc, hx⟩ := dU h
   have hl : L l := hL l (by simp [bI])
   rw [hb]
   simp only
   split
   ·rename_i hlen
    have hx := hx hlen.1 hlen.2
    have hrl0 : ((b.rows.drop off).take len).length = len := by simp; omega
    have hsub : ∀ (i : Nat) (r : List AV), ((b.rows.drop off).take len)[i]? = some r -> i < len /\ b.rows[off + i]? = some r := λ i r h => by
     rw [getElem?_take] at h
     split at h
     ·rw [getElem?_drop] at h; exact ⟨by assumption, h⟩
     ·cases h
    have hrl : (if b.deep = true then (b.rows.drop off).take len else ((b.rows.drop off).take len).map λ r => r.map (bL H d)).length = len := by split <;> simp [hrl0] <;> omega
    cases hβ : β[l]? with
    | none => rw [hβ] at hx; exact hx.elim
    | some bi =>
     rw [hβ] at hx
     have hB := R.blk l bi b hβ hb
     cases bi with
     | nil =>
      obtain ⟨rfl, rfl, rfl⟩ := hx
      have hnil : (if b.deep = true then (b.rows.drop 0).take 0 else ((b.rows.drop 0).take 0).map λ r => r.map (bL H d)) = [] := length_eq_zero_iff.1 hrl
      rw [hnil]
      exact .slice _ false [] _ _ _ (λ _ _ => undef) rfl (le_refl _) (zero_le _) (λ h => by cases h) (λ r h => by cases h) (λ h => absurd rfl h) (λ i j r v h => by simp at h)
     | lies bk c =>
      obtain ⟨hoc, rfl, hadr⟩ := hx
      obtain ⟨cur, h1, h2, h3, h4, h5, h6, h7⟩ := hB
      refine .slice b.sz false _ _ _ _ (λ i j => cur.getD ((off + i) * b.sz + j) undef) hrl.symm (by rw [hrl]; omega) (by omega) (λ h => by cases h) (λ r hr => ?_) (λ hne => ?_) (λ i j r u hi hj => ?_)
      ·split at hr
       ·exact h6 r (mem_of_mem_drop (mem_of_mem_take hr))
       ·obtain ⟨r', hr', rfl⟩ := mem_map.1 hr
        rw [List.length_map]
        exact h6 r' (mem_of_mem_drop (mem_of_mem_take hr'))
      ·rw [hrl] at hne
       refine ⟨bk, off * b.sz, by rw [hadr (by omega), hlen.2], (R.lt l bk c hβ).1, BN R hβ hl, λ i j hi hj => ?_⟩
       rw [hrl] at hi
       have hi' : off + i < b.rows.length := by omega
       have hrow : (b.rows[off + i]).length = b.sz := h6 _ (getElem_mem hi')
       obtain ⟨v, k1, k2, _⟩ := h7 (off + i) j _ _ (getElem?_eq_getElem hi') (getElem?_eq_getElem (show j < b.rows[off + i].length by omega))
       rw [show off * b.sz + i * b.sz + j = (off + i) * b.sz + j by rw [add_mul], cell_of_row w bk _ cur b.e (0, 0) h1, k1]
       have : cur.getD ((off + i) * b.sz + j) undef = v := by simp [Array.getD_eq_getD_getElem?, k1]
       rw [this]
       exact ⟨rfl, k2⟩
      ·split at hi
       ·rename_i hd
        obtain ⟨_, hi⟩ := hsub i r hi
        obtain ⟨v, k1, k2, k3, k4⟩ := h7 (off + i) j r u hi hj
        have : cur.getD ((off + i) * b.sz + j) undef = v := by simp [Array.getD_eq_getD_getElem?, k1]
        rw [this]
        exact (k4 hd).mono λ b _ hb => rO hb
       ·rename_i hd
        rw [getElem?_map] at hi
        simp only [map_eq_some_iff] at hi
        obtain ⟨r', hr', rfl⟩ := hi
        obtain ⟨_, hr'⟩ := hsub i r' hr'
        rw [getElem?_map] at hj
        simp only [map_eq_some_iff] at hj
        obtain ⟨av', hav, rfl⟩ := hj
        obtain ⟨v, k1, k2, k3, k4⟩ := h7 (off + i) j r' av' hr' hav
        have : cur.getD ((off + i) * b.sz + j) undef = v := by simp [Array.getD_eq_getD_getElem?, k1]
        rw [this]
        refine ih k3 λ l' hl' => hL l' ?_
        simp only [bI, hb, hd]
        exact mem_cons_of_mem _ (mem_flatMap.2 ⟨r', mem_of_getElem? hr', mem_flatMap.2 ⟨av', mem_of_getElem? hav, hl'⟩⟩)
   ·exact .undef _
  | ptr l n sz i f =>
   simp only
   obtain ⟨ad, b, rfl, hb, hn, hx⟩ := gB h
   have hl : L l := hL l (by simp [bI])
   rw [hb]
   simp only
   split
   ·rename_i hc
    obtain ⟨bk, cap, hβ, rfl⟩ := hx hc.1 hc.2.1 hc.2.2
    have hB := R.blk l _ b hβ hb
    have hi' : i < b.rows.length := by omega
    rw [gt hi', <- hc.2.1]
    refine .iptr bk _ _ (λ j => (w.cell? ⟨bk, i * b.sz + f + j, none⟩).getD undef) (R.lt l bk cap hβ).1 (BN R hβ hl) (λ j hj => ?_) (λ j u hj => ?_)
    ·have hj' : j < (b.rows[i].drop f).length := by split at hj <;> simpa using hj
     obtain ⟨v, k1, k2, _⟩ := mX hB hi' f (getElem?_eq_getElem hj')
     rw [k1]
     exact ⟨rfl, k2⟩
    ·split at hj
     ·rename_i hd
      obtain ⟨v, k1, k2, k3, k4⟩ := mX hB hi' f hj
      rw [k1]
      exact (k4 hd).mono λ b _ hb => rO hb
     ·rename_i hd
      rw [getElem?_map] at hj
      simp only [map_eq_some_iff] at hj
      obtain ⟨av', hav, rfl⟩ := hj
      obtain ⟨v, k1, k2, k3, k4⟩ := mX hB hi' f hav
      rw [k1]
      refine ih k3 λ l' hl' => hL l' ?_
      simp only [bI, hb, hd]
      rw [getElem?_drop] at hav
      exact mem_cons_of_mem _ (mem_flatMap.2 ⟨_, getElem_mem hi', mem_flatMap.2 ⟨av', mem_of_getElem? hav, hl'⟩⟩)
   ·exact .undef _
  | agg cells =>
   simp only
   obtain ⟨cs, val, rfl, hl, hm, hv⟩ := ir h
   refine .agg cs _ val (by simp [hl]) (λ j hj => hm j (by simpa using hj)) (λ j u hj => ?_)
   rw [getElem?_map] at hj
   simp only [map_eq_some_iff] at hj
   obtain ⟨av', hav, rfl⟩ := hj
   exact ih (hv j av' hav) λ l hl => hL l (by simp only [bI]; exact mem_flatMap.2 ⟨av', mem_of_getElem? hav, hl⟩)
  | tup cells =>
   simp only
   obtain ⟨cs, val, rfl, hl, hm, hv⟩ := oP h
   refine .tup cs _ val (by simp [hl]) (λ j hj => hm j (by simpa using hj)) (λ j u hj => ?_)
   rw [getElem?_map] at hj
   simp only [map_eq_some_iff] at hj
   obtain ⟨av', hav, rfl⟩ := hj
   exact ih (hv j av' hav) λ l hl => hL l (by simp only [bI]; exact mem_flatMap.2 ⟨av', mem_of_getElem? hav, hl⟩)
  | fn f cells =>
   simp only
   obtain ⟨cs, val, rfl, hl, hm, hv⟩ := tI h
   refine .fn f cs _ val (by simp [hl]) (λ j hj => hm j (by simpa using hj)) (λ j u hj => ?_)
   rw [getElem?_map] at hj
   simp only [map_eq_some_iff] at hj
   obtain ⟨av', hav, rfl⟩ := hj
   exact ih (hv j av' hav) λ l hl => hL l (by simp only [bI]; exact mem_flatMap.2 ⟨av', mem_of_getElem? hav, hl⟩)
  | _ => exact (ff rfl h).mono λ b _ hb => rO hb
def Wg (w : World) (X : Nat -> Prop) (β : List BI) (H : List Blk) (b off : Nat) (cells : List AV) : Prop :=
 ∀ (j : Nat) (av : AV), cells[j]? = some av -> ∃ v, w.cell? ⟨b, off + j, none⟩ = some v /\ v.oneCell' = true /\ Rep w X β H v av
theorem tY {t : TypeId} {cells : List AV} {ob : Prop} {r : AV} (h : pi C t cells = some (ob, r)) (hob : ob) {b off : Nat} (hm : Wg w X β H b off cells) :
  ∃ u, (loadVar t ⟨b, off, none⟩).run C.P w = .ok u w /\ Rep w X β H u r := by
 unfold pi at h
 split at h
 ·rename_i ht
  split at h
  ·cases h
  ·rename_i hz
   injection h with h; injection h with h1 h2; subst h1 h2
   have key : ∀ j (hj : j < cells.length), ∃ v, w.cell? ⟨b, off + j, none⟩ = some v /\ v.oneCell' = true /\ Rep w X β H v cells[j] := λ j hj => hm j _ (getElem?_eq_getElem hj)
   let f : Nat -> Value := λ j => (w.cell? ⟨b, off + j, none⟩).getD undef
   have hr := run_loadCells (P := C.P) w ⟨b, off, none⟩ (szT C.P t) f (λ j hj => by
    obtain ⟨v, h1, _⟩ := key j (by omega)
    rw [gW, show f j = v by simp [f, h1], h1])
   refine ⟨_, ?_, .agg ((List.range (szT C.P t)).map f).toArray _ f ?_ (λ j hj => ?_) (λ j u hu => ?_)⟩
   ·simp [loadVar, mU ht, aS (pos_of_ne_zero hz), hr]
   ·simp; omega
   ·simp only [length_take] at hj
    obtain ⟨v, h1, h2, _⟩ := key j (by omega)
    have hj' : j < szT C.P t := by omega
    refine ⟨by simp [hj'], ?_⟩
    rw [show f j = v by simp [f, h1]]
    exact h2
   ·rw [getElem?_take] at hu
    split at hu
    ·obtain ⟨v, h1, _, h3⟩ := hm j u hu
     rw [show f j = v by simp [f, h1]]
     exact h3
    ·cases hu
 ·rename_i ht
  injection h with h; injection h with h1 h2; subst h1 h2
  obtain ⟨v, h1, _, h3⟩ := hm 0 _ (getElem?_eq_getElem hob)
  refine ⟨v, ?_, ?_⟩
  ·rw [add_zero] at h1
   simp [loadVar, mU ht, run_load, h1]
  ·rw [List.getD_eq_getElem?_getD, getElem?_eq_getElem hob]
   exact h3
 ·cases h
theorem ry (R : HRel w X β H) {t : TypeId} {p : AV} {ob : Prop} {r : AV} (h : vu C H t p = some (ob, r)) (hob : ob) {vp : Value} (hp : Rep w (Mu X β H) β H vp p) :
  ∃ u, (Instr.loadAt t vp).run C.P w = .ok u w /\ Rep w (Mu X β H) β H u r := by
 unfold vu at h
 split at h
 ·rename_i cs
  have hd := jl hp
  obtain ⟨b, o, rfl⟩ := mP hd
  cases hd with
  | iptr _ _ _ val hb hX hm hv =>
   obtain ⟨u, h1, h2⟩ := tY (w := w) (X := Mu X β H) (β := β) (H := H) h hob (b := b) (off := o) (λ j av hj => ⟨val j, (hm j (List.getElem?_eq_some_iff.1 hj).1).1, (hm j (List.getElem?_eq_some_iff.1 hj).1).2, .deep (hv j av hj)⟩)
   exact ⟨u, by simp [Instr.loadAt, Instr.sureAddr, h1], h2⟩
 ·rename_i l n sz i f
  split at h
  ·rename_i b hb
   split at h
   ·rename_i ob' v hh
    injection h with h; injection h with e1 e2; subst e1 e2
    obtain ⟨⟨o1, o2, o3⟩, o4⟩ := hob
    obtain ⟨ad, b', rfl, hb', hn, hx⟩ := gB hp
    rw [hb] at hb'
    injection hb' with hb'
    subst hb'
    obtain ⟨bk, cap, hβ, rfl⟩ := hx o1 o2 o3
    have hi : i < b.rows.length := by omega
    rw [gt hi] at hh
    obtain ⟨u, h1, h2⟩ := tY hh o4 (b := bk) (off := i * sz + f) (λ j av hj => by
     obtain ⟨v, k1, k2, k3, _⟩ := mX (R.blk l _ b hβ hb) hi f hj
     rw [<- o2]
     exact ⟨v, k1, k2, k3⟩)
    exact ⟨u, by simp [Instr.loadAt, Instr.sureAddr, h1], h2⟩
   ·cases h
  ·cases h
 ·cases h
end
theorem Lf {w : World} {X : Nat -> Prop} {β : List BI} {v : Value} {av : AV} (h : Rep w X β [] v av) : RepD w X v av := by
 induction h with
 | deep h => exact h
 | own l n a cap b hb => simp at hb
 | osl l n sz off len a cap b hb => simp at hb
 | ptr l n sz i f a b hb => simp at hb
 | agg cs cells val hl hm hv ih => exact .agg cs cells val hl hm ih
 | tup cs cells val hl hm hv ih => exact .tup cs cells val hl hm ih
 | fn f cs cells val hl hm hv ih => exact .fn f cs cells val hl hm ih
theorem kA {w : World} {X : Nat -> Prop} {v : Value} {av : AV} (h : RepD w X v av) : RepD w X v (n8 av) := by
 unfold n8
 split
 ·cases h with
  | slice _ _ _ a n cap val hn h1 h2 h3 hr hm hv => exact .slice _ false _ a n cap val hn h1 h2 (λ h => by cases h) hr hm hv
 ·exact h
section
variable {C : Ctx} {w : World} {X Y : Nat -> Prop} {β : List BI} {H : List Blk}
theorem nN {e : TypeId} : ∀ {i : Nat} {parts : List (Nat × AV)} {rows : List (List AV)}, kU C e i parts = some rows -> rows.length = parts.length
 | _, [], rows, h => by simp only [kU, Option.some.injEq] at h; subst h; rfl
 | i, (k, v) :: r, rows, h => by
  unfold kU at h
  split at h
  ·split at h
   ·rename_i cs rest h1 h2
    injection h with h; subst h
    simp [nN h2]
   ·cases h
  ·cases h
theorem tz {e : TypeId} (sz : Nat) (hsz : sz = szT C.P e) : ∀ (parts : List (Nat × AV)) (vparts : List (Nat × Value)) (i : Nat) (rows : List (List AV)) (cs : Array Value), kU C e i parts = some rows ->
  vparts.length = parts.length -> (∀ (j k : Nat) (u : AV), parts[j]? = some (k, u) -> ∃ v, vparts[j]? = some (k, v) /\ RepD w Y v u) -> cs.size = (i + parts.length) * sz ->
  ∃ cs', Instr.fill (λ k => some (k * sz, sz)) cs vparts = some cs' /\ cs'.size = cs.size /\ (∀ k, k < i * sz -> cs'[k]? = cs[k]?) /\ (∀ r ∈ rows, r.length = sz) /\
   ∀ (m j : Nat) (r : List AV) (av : AV), rows[m]? = some r -> r[j]? = some av -> ∃ v, cs'[(i + m) * sz + j]? = some v /\ v.oneCell' = true /\ RepD w Y v av
 | [], vparts, i, rows, cs, h, hl, hv, hs => by
  simp only [kU, Option.some.injEq] at h
  subst h
  obtain rfl := length_eq_zero_iff.1 hl
  exact ⟨cs, rfl, rfl, λ _ _ => rfl, λ r hr => (by cases hr), λ m j r av hm => (by simp at hm)⟩
 | (k, u) :: parts, vparts, i, rows, cs, h, hl, hv, hs => by
  obtain ⟨v, h1, h2⟩ := hv 0 k u rfl
  match vparts, hl, hv, h1 with
  | x :: vp, hl, hv, h1 =>
   simp at h1
   subst h1
   unfold kU at h
   split at h
   ·rename_i hki
    subst hki
    split at h
    ·rename_i cu rest hcu hrest
     injection h with h
     subst h
     obtain ⟨k1, k2⟩ := gz (w := w) (X := Y) (β := []) (H := []) hcu (.deep h2)
     have hvs : v.cells.size = sz := by rw [k1.1, k2, hsz]
     have hcl : cu.length = sz := by rw [k2, hsz]
     simp only [List.length_cons] at hs
     have hmul : (k + (parts.length + 1)) * sz = k * sz + sz + parts.length * sz := by rw [add_mul, add_mul]; omega
     have eq1 : v.cells.zipIdx.foldl (λ (cs : Array Value) (x : Value × Nat) => cs.setIfInBounds (k * sz + x.2) x.1) cs = (v.cells.toList.zipIdx 0).foldl (λ cs x => cs.setIfInBounds (k * sz + x.2) x.1) cs := by
      rw [<- Array.foldl_toList]
      simp
     obtain ⟨f1, f2⟩ := qC (k * sz) v.cells.toList 0 cs
     obtain ⟨cs', g1, g2, g3, g4, g5⟩ := tz sz hsz parts vp (k + 1) rest _ hrest (by simpa using hl) (λ j k u hj => by have := hv (j + 1) k u (by simpa using hj); simpa using this)
      (show ((v.cells.toList.zipIdx 0).foldl (λ cs x => cs.setIfInBounds (k * sz + x.2) x.1) cs).size = (k + 1 + parts.length) * sz by rw [f1, hs]; congr 1; omega)
     refine ⟨cs', ?_, by rw [g2, f1], λ m hm => ?_, λ r hr => ?_, λ m j r av hm hj => ?_⟩
     ·unfold Instr.fill
      simp only [hvs, ne_eq, not_true_eq_false, Bool.false_or, decide_false]
      rw [if_neg (by simp; omega), eq1, g1]
     ·have hlt : m < (k + 1) * sz := by rw [add_mul]; omega
      rw [g3 m hlt, f2 m, if_neg (by omega)]
     ·rcases List.mem_cons.1 hr with rfl | hr
      ·simp [hcl]
      ·exact g4 r hr
     ·match m with
      | 0 =>
       simp at hm
       subst hm
       rw [getElem?_map] at hj
       simp only [map_eq_some_iff] at hj
       obtain ⟨av', hav, rfl⟩ := hj
       have hjl := (List.getElem?_eq_some_iff.1 hav).1
       obtain ⟨v', q1, q2, q3⟩ := k1.2 j av' hav
       refine ⟨v', ?_, q2, kA (Lf q3)⟩
       rw [add_zero, g3 _ (by rw [add_mul]; omega), f2, if_pos ⟨by omega, by simp; omega, by omega⟩]
       simpa using q1
      | m + 1 =>
       have := g5 m j r av (by simpa using hm) hj
       rwa [show k + 1 + m = k + (m + 1) by omega] at this
    ·cases h
   ·cases h
theorem jA {t : TypeId} {len : Nat} {parts : List (Nat × AV)} {ob : Prop} {r : AV} (h : bO C t len parts = some (ob, r)) {vparts : Array (Nat × Value)} (hl : vparts.size = parts.length)
  (hv : ∀ (j k : Nat) (u : AV), parts[j]? = some (k, u) -> ∃ v, vparts[j]? = some (k, v) /\ RepD w Y v u) (hY : ∀ b, Y b -> b < w.heap.size) :
  ∃ u w', (Instr.buildSlice t len vparts).run C.P w = .ok u w' /\ Keeps (λ _ => False) w w' /\ RepD w' Y u r := by
 unfold bO at h
 split at h
 ·rename_i e he
  split at h
  ·cases h
  ·rename_i hc
   have hc1 : ¬ szT C.P e = 0 := λ h => hc (.inl h)
   have hc2 : ¬ (zT C.P e).isNone = true := λ h => hc (.inr (.inl h))
   have hc3 : parts.length = len := Classical.byContradiction λ h => hc (.inr (.inr (.inl h)))
   have hc4 : len * szT C.P e <= 1000000 := Nat.le_of_not_lt λ h => hc (.inr (.inr (.inr h)))
   split at h
   ·rename_i rows hrows
    injection h with h; injection h with e1 e2; subst e1 e2
    obtain ⟨z, hz⟩ : ∃ z, zT C.P e = some z := by cases hz : zT C.P e <;> simp_all
    obtain ⟨i, zv, z1, z2, z3, z4, z5, z6, z7⟩ := cG hz
    have hzr : (zeroValue e).run C.P w = .ok zv w := by simp [zeroValue, typeInfo, z1, z2]
    have hrl := nN hrows
    have hsize := aS (P := C.P) (pos_of_ne_zero hc1) w
    have mk : ∀ (cs : Array Value), cs.size = len * szT C.P e -> ∃ cs', Instr.fill (λ k => some (k * szT C.P e, szT C.P e)) cs vparts.toList = some cs' /\ cs'.size = cs.size /\ (∀ r ∈ rows, r.length = szT C.P e) /\
      ∀ (m j : Nat) (r : List AV) (av : AV), rows[m]? = some r -> r[j]? = some av -> ∃ v, cs'[m * szT C.P e + j]? = some v /\ v.oneCell' = true /\ RepD w Y v av := by
     intro cs hcs
     obtain ⟨cs', g1, g2, _, g4, g5⟩ := tz (w := w) (Y := Y) (szT C.P e) rfl parts vparts.toList 0 rows cs hrows (by simpa using hl) (λ j k u hj => by simpa using hv j k u hj) (by rw [hcs, zero_add, hc3])
     exact ⟨cs', g1, g2, g4, λ m j r av hm hj => by simpa using g5 m j r av hm hj⟩
    have fin : ∀ cs', cs'.size = len * szT C.P e -> (∀ r ∈ rows, r.length = szT C.P e) -> (∀ (m j : Nat) (r : List AV) (av : AV), rows[m]? = some r -> r[j]? = some av -> ∃ v, cs'[m * szT C.P e + j]? = some v /\ v.oneCell' = true /\ RepD w Y v av) ->
      RepD (w.alloc (.cells cs' e)) Y (.slice (some ⟨w.heap.size, 0, none⟩) len len) (.slice (szT C.P e) true rows) := by
     intro cs' hs hr hcell
     have hK := Keeps.alloc (λ _ => False) w (.cells cs' e)
     refine .slice _ true rows _ _ _ (λ m j => cs'.getD (m * szT C.P e + j) undef) (by omega) (by omega) (by unfold maxLen; have : len <= len * szT C.P e := Nat.le_mul_of_pos_right _ (pos_of_ne_zero hc1); omega) (λ _ => by omega) hr (λ _ => ⟨w.heap.size, 0, rfl, by simp, λ h => lt_irrefl _ (hY _ h), λ m j hm hj => ?_⟩) (λ m j r av hm hj => ?_)
     ·have hrow : rows[m].length = szT C.P e := hr _ (getElem_mem hm)
      obtain ⟨v, q1, q2, q3⟩ := hcell m j _ _ (getElem?_eq_getElem hm) (getElem?_eq_getElem (show j < rows[m].length by omega))
      rw [cell_of_row _ _ _ _ _ _ (heap_alloc_new w _), show 0 + m * szT C.P e + j = m * szT C.P e + j by omega, q1]
      have : cs'.getD (m * szT C.P e + j) undef = v := by simp [Array.getD_eq_getD_getElem?, q1]
      rw [this]
      exact ⟨rfl, q2⟩
     ·obtain ⟨v, q1, q2, q3⟩ := hcell m j r av hm hj
      have : cs'.getD (m * szT C.P e + j) undef = v := by simp [Array.getD_eq_getD_getElem?, q1]
      rw [this]
      exact q3.keep (λ b hb _ => hK.block b hb id) hK.size (λ b _ h => h)
    by_cases h0 : len * szT C.P e = 0
    ·have hlen : len = 0 := (Nat.mul_eq_zero.1 h0).resolve_right hc1
     obtain ⟨cs', g1, g2, g4, g5⟩ := mk #[] (by rw [h0]; rfl)
     refine ⟨.slice (some ⟨w.heap.size, 0, none⟩) len len, w.alloc (.cells cs' e), ?_, Keeps.alloc _ _ _, fin cs' (by rw [g2, h0]; rfl) g4 g5⟩
     subst hlen
     have hvl : vparts.toList.length = 0 := by rw [Array.length_toList, hl, hc3]
     obtain rfl : vparts = #[] := by rw [<- Array.toList_inj]; exact length_eq_zero_iff.1 hvl
     simp only [Instr.fill, Option.some.injEq] at g1
     subst g1
     simp [Instr.buildSlice, run_underlying (bC he), hsize, Instr.fill, newRow]
     rw [Array.eq_empty_of_size_eq_zero (xs := Array.map (λ _ => default) (Array.range 0)) (by simp)]
    ·obtain ⟨cs', g1, g2, g4, g5⟩ := mk ((Array.range (len * szT C.P e)).map λ x => zv.cells[x % zv.cells.size]!) (by simp)
     refine ⟨.slice (some ⟨w.heap.size, 0, none⟩) len len, w.alloc (.cells cs' e), ?_, Keeps.alloc _ _ _, fin cs' (by rw [g2]; simp) g4 g5⟩
     have hno : ¬ len * szT C.P e > 2 ^ 24 := by omega
     simp only [Instr.buildSlice, Sem.run_bind, run_underlying (bC he), Result.andThen_ok, hsize, hno, if_false, h0, hzr, Sem.run_pure, g1, newRow, run_newObj]
     rfl
   ·cases h
 ·cases h
theorem px {rows : List (List AV)} (h : rows = dI (unB rows)) {i : Nat} (hi : i < rows.length) : ∃ hi' : i < (unB rows).data.size, rows[i]? = some [.int .u8 (((unB rows).data[i]'hi').toNat : Int)] := by
 have h1 : (dI (unB rows))[i]? = some (rows[i]) := by rw [<- h]; exact getElem?_eq_getElem hi
 obtain ⟨hi', h2⟩ := nH h1
 exact ⟨hi', by rw [getElem?_eq_getElem hi, h2]⟩
theorem rY (R : HRel w X β H) {src dst : TypeId} {x : AV} {ob : Prop} {r : AV} (h : ke C H src dst x = some (ob, r)) (hob : ob) {vx : Value} (hx : Rep w (Mu X β H) β H vx x) :
  ∃ u, (convert src dst vx).run C.P w = .ok u w /\ Rep w (Mu X β H) β H u r := by
 unfold ke at h
 split at h
 ·rename_i e he
  split at h
  ·rename_i hc
   simp only [Bool.and_eq_true, beq_iff_eq] at hc
   split at h
   ·rename_i full rows hv
    injection h with h; injection h with e1 e2; subst e1 e2
    have hd := bX R (λ _ => True) 6 hx (λ _ _ => trivial)
    rw [hv] at hd
    obtain ⟨a, cap, val, rfl, h1, h2, h3, hr, hm, hvv⟩ := dc hd
    refine ⟨.string (unB rows), ?_, .deep (.str _)⟩
    have hsz : rows.length = (unB rows).data.toList.length := by
     have := congrArg List.length hob
     rw [dQ] at this
     simpa using this
    by_cases h0 : rows.length = 0
    ·have hrows : rows = [] := length_eq_zero_iff.1 h0
     subst hrows
     have he0 : unB [] = ByteArray.empty := rfl
     rw [he0]
     cases a with
     | none => simp [convert, run_underlying (bC he), run_underlying (dd hc.1.1), run_underlying (oO hc.1.2), Conv.bytesToString]
     | some ad =>
      have := run_convert_bytes_back (P := C.P) w src dst e ad cap [] (bC he) (oO hc.1.2) (dd hc.1.1) (λ j hj => by simp at hj)
      exact this
    ·obtain ⟨b, off, rfl, hb, hX, hcell⟩ := hm h0
     have := run_convert_bytes_back (P := C.P) w src dst e ⟨b, off, none⟩ cap (unB rows).data.toList (bC he) (oO hc.1.2) (dd hc.1.1) (λ j hj => by
      obtain ⟨hj', h5⟩ := px hob (i := j) (by omega)
      have h6 := hcell j 0 (by omega) (by omega)
      rw [gW, show off + j = off + j * 1 + 0 by omega, h6.1]
      have h7 := hvv j 0 _ _ h5 rfl
      congr 1
      have h8 := bB (β := []) (H := []) (Rep.deep h7)
      rw [h8]
      simp)
     rw [<- hsz] at this
     simpa using this
   ·cases h
  ·cases h
 ·cases h
end
def PureOK (P : Program) (G : Nat -> AV) (f : FuncId) (p : List AV -> Option (Prop × AV)) : Prop :=
 ∀ (w : World) (X : Nat -> Prop) (args : Array Value) (avs : List AV) (ob : Prop) (r : AV), (∀ b, X b -> b < w.heap.size) -> (∀ g, GV P w X g (G g)) -> args.size = avs.length ->
  (∀ (j : Nat) (u : AV), avs[j]? = some u -> ∃ v, args[j]? = some v /\ RepD w X v u) -> p avs = some (ob, r) -> ob ->
  Calls P f args w λ e w' => ∃ v, e = .returned v /\ Keeps (λ _ => False) w w' /\ RepD w' X v r
def jM (P : Program) (G : Nat -> AV) (f : FuncId) (g : List AV -> List Blk -> Option (Prop × AV × List Blk)) : Prop :=
 ∀ (w : World) (X : Nat -> Prop) (β : List BI) (H : List Blk) (args : Array Value) (avs : List AV) (ob : Prop) (r : AV) (H' : List Blk), HRel w X β H -> (∀ k, GV P w (Mu X β H) k (G k)) -> args.size = avs.length ->
  (∀ (j : Nat) (u : AV), avs[j]? = some u -> ∃ v, args[j]? = some v /\ Rep w (Mu X β H) β H v u) -> g avs H = some (ob, r, H') -> ob ->
  Calls P f args w λ e w' => ∃ v β', e = .returned v /\ HRel w' X β' H' /\ StepR w β H w' β' H' /\ Rep w' (Mu X β' H') β' H' v r
def zd (P : Program) (f : FuncId) (p : List AV -> Option (Prop × AV)) : Prop :=
 ∀ (w : World) (X : Nat -> Prop) (args : Array Value) (avs : List AV) (ob : Prop) (r : AV), args.size = avs.length ->
  (∀ (j : Nat) (u : AV), avs[j]? = some u -> ∃ v, args[j]? = some v /\ RepD w X v u) -> p avs = some (ob, r) -> ob ->
  ∃ v, (callFunc f args).run P w = .ok (.value v) w /\ RepD w X v r
def jN (P : Program) (G : Nat -> AV) (f : FuncId) : Entry -> Prop
 | .no => True
 | .pure p => (PureOK P G f p /\ ∃ fn, P.funcs[f]? = some fn /\ fn.name ≠ "runtime.NumGoroutine" /\ fn.body.isSome = true) ∨ zd P f p
 | .frz p => PureOK P G f p /\ ∃ fn, P.funcs[f]? = some fn /\ fn.name ≠ "runtime.NumGoroutine" /\ fn.body.isSome = true
 | .gen g => jM P G f g /\ ∃ fn, P.funcs[f]? = some fn /\ fn.name ≠ "runtime.NumGoroutine" /\ fn.body.isSome = true
def au (C : Ctx) : Prop := ∀ f, jN C.P C.G f (C.S f)
section
variable {C : Ctx} {w w' : World} {X : Nat -> Prop} {β : List BI} {H : List Blk}
theorem fe {α : Type} {l : List α} {x : α} {i : Nat} (h : i < l.length) : (l ++ [x])[i]? = l[i]? := getElem?_append_left h
theorem aM {α : Type} (l : List α) (x : α) : (l ++ [x])[l.length]? = some x := by simp
theorem fX {α : Type} {l : List α} {x y : α} {i : Nat} (h : (l ++ [x])[i]? = some y) : (i < l.length /\ l[i]? = some y) ∨ (i = l.length /\ y = x) := by
 rcases lt_or_ge i l.length with h1 | h1
 ·rw [fe h1] at h
  exact .inl ⟨h1, h⟩
 ·have h2 := (List.getElem?_eq_some_iff.1 h).1
  simp at h2
  have h3 : i = l.length := by omega
  subst h3
  rw [aM] at h
  injection h with h
  exact .inr ⟨rfl, h.symm⟩
theorem dJ (R : HRel w X β H) (hk : Keeps (λ _ => False) w w') (bi : BI) (b : Blk) (h6 : ∀ bk c, bi = .lies bk c -> w.heap.size <= bk) : StepR w β H w' (β ++ [bi]) (H ++ [b]) := by
 refine ⟨hk.weaken λ _ _ h => h.elim, ⟨λ l b0 h => ?_, λ l bk c h => ?_⟩, R.len⟩
 ·have hl := (List.getElem?_eq_some_iff.1 h).1
  refine ⟨b0, by rw [fe hl]; exact h, rfl, rfl, le_refl _, λ _ => ?_, id⟩
  rw [fe (by rw [R.len]; exact hl)]
 ·rcases fX h with ⟨_, h1⟩ | ⟨_, h1⟩
  ·exact .inr ⟨c, h1⟩
  ·exact .inl (h6 bk c h1.symm)
theorem eV (R : HRel w X β H) (hk : Keeps (λ _ => False) w w') (bi : BI) (b : Blk) (h6 : ∀ bk c, bi = .lies bk c -> w.heap.size <= bk) (h7 : ∀ bk c, bi = .lies bk c -> bk < w'.heap.size)
  (hB : BlkRep w' (Mu X (β ++ [bi]) (H ++ [b])) (β ++ [bi]) (H ++ [b]) bi b) : HRel w' X (β ++ [bi]) (H ++ [b]) := by
 have S := dJ R hk bi b h6
 have hs := hk.size
 refine ⟨by simp [R.len], λ l bi' b' h1 h2 => ?_, λ l b' c h => ?_, λ l l' b' c c' h h' => ?_, λ b hb => lt_of_lt_of_le (R.base b hb) hs⟩
 ·rcases fX h1 with ⟨k1, k2⟩ | ⟨k1, k2⟩ <;> rcases fX h2 with ⟨k3, k4⟩ | ⟨k3, k4⟩
  ·exact (R.blk l bi' b' k2 k4).keep S λ bk c e => by subst e; exact hk.block bk (R.lt l bk c k2).1 id
  ·have := R.len; omega
  ·have := R.len; omega
  ·subst k2 k4; exact hB
 ·rcases fX h with ⟨_, h1⟩ | ⟨_, h1⟩
  ·exact ⟨lt_of_lt_of_le (R.lt l b' c h1).1 hs, (R.lt l b' c h1).2⟩
  ·exact ⟨h7 b' c h1.symm, λ hx => by have := R.base b' hx; have := h6 b' c h1.symm; omega⟩
 ·rcases fX h with ⟨_, h1⟩ | ⟨e1, h1⟩ <;> rcases fX h' with ⟨_, h2⟩ | ⟨e2, h2⟩
  ·exact R.inj l l' b' c c' h1 h2
  ·have := (R.lt l b' c h1).1; have := h6 b' c' h2.symm; omega
  ·have := (R.lt l' b' c' h2).1; have := h6 b' c h1.symm; omega
  ·omega
theorem ed (R : HRel w X β H) {l : Nat} {b : Blk} {bi : BI} (hb : H[l]? = some b) (hbi : β[l]? = some bi) (bi' : BI) (b' : Blk) (h1 : b'.sz = b.sz) (h2 : b'.e = b.e) (h3 : b.rows.length <= b'.rows.length) (h4 : b'.rows.length = b.rows.length -> bi' = bi)
  (h5 : b'.mu = true -> b.mu = true) (h6 : ∀ bk c, bi' = .lies bk c -> w.heap.size <= bk ∨ ∃ c', bi = .lies bk c') (hk : Keeps (MutB β H) w w') : StepR w β H w' (β.set l bi') (H.set l b') := by
 refine ⟨hk, ⟨λ k b0 h => ?_, λ k bk c h => ?_⟩, R.len⟩
 ·by_cases e : l = k
  ·subst e
   rw [hb] at h
   injection h with h
   subst h
   refine ⟨b', by rw [getElem?_set_self (List.getElem?_eq_some_iff.1 hb).1], h1, h2, h3, λ e => ?_, h5⟩
   rw [getElem?_set_self (List.getElem?_eq_some_iff.1 hbi).1, hbi, h4 e]
  ·refine ⟨b0, by rw [getElem?_set_ne e]; exact h, rfl, rfl, le_refl _, λ _ => ?_, id⟩
   rw [getElem?_set_ne e]
 ·by_cases e : l = k
  ·subst e
   rw [getElem?_set_self (List.getElem?_eq_some_iff.1 hbi).1] at h
   injection h with h
   rcases h6 bk c h with h | ⟨c', h⟩
   ·exact .inl h
   ·exact .inr ⟨c', by rw [hbi, h]⟩
  ·rw [getElem?_set_ne e] at h
   exact .inr ⟨c, h⟩
theorem eG (R : HRel w X β H) {l : Nat} {b : Blk} {bi : BI} (hb : H[l]? = some b) (hbi : β[l]? = some bi) (bi' : BI) (b' : Blk) (S : StepR w β H w' (β.set l bi') (H.set l b'))
  (hoth : ∀ (l' bk c : Nat), l' ≠ l -> β[l']? = some (BI.lies bk c) -> w'.heap[bk]? = w.heap[bk]?) (hB : BlkRep w' (Mu X (β.set l bi') (H.set l b')) (β.set l bi') (H.set l b') bi' b')
  (hlt : ∀ bk c, bi' = .lies bk c -> bk < w'.heap.size /\ ¬ X bk) (hinj : ∀ (bk c l' c' : Nat), bi' = .lies bk c -> l' ≠ l -> β[l']? ≠ some (BI.lies bk c')) : HRel w' X (β.set l bi') (H.set l b') := by
 have hs := S.keeps.size
 refine ⟨by simp [R.len], λ k bi0 b0 h1 h2 => ?_, λ k b0 c h => ?_, λ k k' b0 c c' h h' => ?_, λ b hb => lt_of_lt_of_le (R.base b hb) hs⟩
 ·by_cases e : l = k
  ·subst e
   rw [getElem?_set_self (List.getElem?_eq_some_iff.1 hbi).1] at h1
   rw [getElem?_set_self (List.getElem?_eq_some_iff.1 hb).1] at h2
   injection h1 with h1; injection h2 with h2
   subst h1 h2
   exact hB
  ·rw [getElem?_set_ne e] at h1 h2
   exact (R.blk k bi0 b0 h1 h2).keep S λ bk c e' => by subst e'; exact hoth k bk c (λ h => e h.symm) h1
 ·by_cases e : l = k
  ·subst e
   rw [getElem?_set_self (List.getElem?_eq_some_iff.1 hbi).1] at h
   injection h with h
   exact hlt b0 c h
  ·rw [getElem?_set_ne e] at h
   exact ⟨lt_of_lt_of_le (R.lt k b0 c h).1 hs, (R.lt k b0 c h).2⟩
 ·by_cases e : l = k <;> by_cases e' : l = k'
  ·omega
  ·subst e
   rw [getElem?_set_self (List.getElem?_eq_some_iff.1 hbi).1] at h
   injection h with h
   rw [getElem?_set_ne e'] at h'
   exact absurd h' (hinj b0 c k' c' h (λ h => e' h.symm))
  ·subst e'
   rw [getElem?_set_self (List.getElem?_eq_some_iff.1 hbi).1] at h'
   injection h' with h'
   rw [getElem?_set_ne e] at h
   exact absurd h (hinj b0 c' k c h' (λ h => e h.symm))
  ·rw [getElem?_set_ne e] at h
   rw [getElem?_set_ne e'] at h'
   exact R.inj k k' b0 c c' h h'
theorem mD (ls : List Nat) : ∀ (H : List Blk) (i k : Nat), (jY ls i H)[k]? = (H[k]?).map λ b => if ls.contains (i + k) then { b with mu := false } else b
 | [], i, k => by simp [jY]
 | b :: r, i, k => by
  match k with
  | 0 => simp [jY]
  | k + 1 =>
   simp only [jY, List.getElem?_cons_succ, mD ls r (i + 1) k]
   rw [show i + 1 + k = i + (k + 1) by omega]
theorem pf (R : HRel w X β H) (ls : List Nat) : StepR w β H w β (jY ls 0 H) := by
 refine ⟨Keeps.refl _ _, ⟨λ l b h => ?_, λ l bk c h => .inr ⟨c, h⟩⟩, R.len⟩
 refine ⟨_, by rw [mD, h]; rfl, ?_, ?_, ?_, λ _ => rfl, ?_⟩ <;> split <;> simp
theorem rD (ls : List Nat) : ∀ (H : List Blk) (i : Nat), (jY ls i H).length = H.length
 | [], _ => rfl
 | b :: r, i => by simp [jY, rD ls r (i + 1)]
theorem t6 (R : HRel w X β H) (ls : List Nat) : HRel w X β (jY ls 0 H) := by
 have S := pf R ls
 refine ⟨by rw [R.len, rD], λ l bi b h1 h2 => ?_, R.lt, R.inj, R.base⟩
 rw [mD] at h2
 simp only [map_eq_some_iff] at h2
 obtain ⟨b0, h3, h4⟩ := h2
 have hB := (R.blk l bi b0 h1 h3).keep S λ _ _ _ => rfl
 subst h4
 split
 ·cases bi with
  | nil => exact hB
  | lies bk c => exact hB
 ·exact hB
theorem DD {ls : List Nat} {b : Nat} (h : Mu X β (jY ls 0 H) b) : XL X β H (λ l => l ∈ ls) b := by
 rcases h with h | ⟨l, c, blk, h1, h2, h3⟩
 ·exact .inl h
 ·rw [mD] at h2
  simp only [map_eq_some_iff] at h2
  obtain ⟨b0, h4, h5⟩ := h2
  subst h5
  split at h3
  ·cases h3
  ·rename_i hc
   exact .inr ⟨l, c, b0, h1, h4, h3, by simpa using hc⟩
theorem uq (R : HRel w X β H) {t : TypeId} {cs : List AV} {ob : Prop} {r : AV} {H' : List Blk} (h : w8 C H t (some cs) = some (ob, r, H')) {cur : Array Value} (hc : CRep w (Mu X β H) β H cur cs) :
  ∃ β', HRel (w.alloc (.cells cur t)) X β' H' /\ StepR w β H (w.alloc (.cells cur t)) β' H' /\ Rep (w.alloc (.cells cur t)) (Mu X β' H') β' H' (.pointer (some ⟨w.heap.size, 0, none⟩)) r := by
 unfold w8 at h
 simp only at h
 split at h
 ·rename_i hs
  injection h with h; injection h with e1 e2; injection e2 with e2 e3; subst e1 e2 e3
  have hk := Keeps.alloc (λ _ => False) w (.cells cur t)
  have S := dJ R hk (.lies w.heap.size 1) ⟨t, szT C.P t, [cs], true, cs.all AV.isDeep⟩ (λ bk c e => by injection e with e _; omega)
  refine ⟨β ++ [.lies w.heap.size 1], eV R hk _ _ (λ bk c e => by injection e with e _; omega) (λ bk c e => by injection e with e _; subst e; simp) ?_, S, ?_⟩
  ·refine ⟨cur, heap_alloc_new w _, by rw [hc.1, hs.1]; simp, le_refl _, by unfold maxLen; omega, by rw [hs.1]; exact hs.2, λ r hr => ?_, λ i j r av hi hj => ?_⟩
   ·simp at hr; subst hr; exact hs.1.symm
   ·match i with
    | 0 =>
     simp at hi
     subst hi
     obtain ⟨v, k1, k2, k3⟩ := hc.2 j av hj
     refine ⟨v, by simpa using k1, k2, k3.keep S, λ hd => ?_⟩
     have hd' : av.isDeep = true := all_eq_true.1 hd av (mem_of_getElem? hj)
     exact ff hd' (k3.keep S)
    | i + 1 => simp at hi
  ·refine .ptr H.length 1 _ 0 0 _ ⟨t, szT C.P t, [cs], true, cs.all AV.isDeep⟩ (by simp) (le_refl _) λ _ _ _ => ⟨w.heap.size, 1, ?_, by simp⟩
   rw [<- R.len]
   simp
 ·cases h
theorem uS (z : Array Value) (n k : Nat) (hk : k < n) (hz : 0 < z.size) : (madeCells z n)[k]? = z[k % z.size]? := by
 unfold madeCells
 have : k % z.size < z.size := mod_lt _ hz
 simp [hk, this]
theorem BJ (R : HRel w X β H) {t : TypeId} {l c : AV} {ob : Prop} {r : AV} {H' : List Blk} (h : ze C H t l c = some (ob, r, H')) (hob : ob) {vl vc : Value} (hl : Rep w (Mu X β H) β H vl l) (hc : Rep w (Mu X β H) β H vc c) :
  ∃ u w' β', (Instr.makeSlice t vl vc).run C.P w = .ok u w' /\ HRel w' X β' H' /\ StepR w β H w' β' H' /\ Rep w' (Mu X β' H') β' H' u r := by
 unfold ze at h
 split at h
 ·rename_i e kl l kc c he
  obtain rfl := bB hl
  obtain rfl := bB hc
  split at h
  ·rename_i z hz
   injection h with h; injection h with e1 e2; injection e2 with e2 e3; subst e1 e2 e3
   obtain ⟨o1, o2, o3, o4⟩ := hob
   obtain ⟨i, zv, z1, z2, z3, z4, z5, z6, z7⟩ := cG hz
   have hby : byT C.P e = i.bytes := by simp [byT, z1]
   rw [hby] at o3
   have hrun := run_make (P := C.P) w t e i zv (bC he) z1 z2 kl kc l c o1 o2 (by
    have : ((c.toNat * i.bytes : Nat) : Int) <= 140737488355328 := by omega
    rw [Int.natCast_mul, Int.toNat_of_nonneg (by omega)] at this
    rw [Int.mul_comm]
    omega) (by omega)
   rw [z3] at hrun
   have hk := Keeps.alloc (λ _ => False) w (.cells (madeCells zv.cells (c.toNat * z.length)) e)
   have hz0 : 0 < z.length := by omega
   have S := dJ R hk (.lies w.heap.size c.toNat) ⟨e, szT C.P e, List.replicate l.toNat z, true, z.all AV.isDeep⟩ (λ bk c e => by injection e with e _; omega)
   refine ⟨_, _, β ++ [.lies w.heap.size c.toNat], hrun, eV R hk _ _ (λ bk c e => by injection e with e _; omega) (λ bk c e => by injection e with e _; subst e; simp) ?_, S, ?_⟩
   ·refine ⟨_, heap_alloc_new w _, by rw [size_madeCells, z5], by simp; omega, by unfold maxLen; omega, by rw [z5]; exact hz0, λ r hr => ?_, λ i j r av hi hj => ?_⟩
    ·rw [List.eq_of_mem_replicate hr, z5]
    ·have hi' := (List.getElem?_eq_some_iff.1 hi).1
     simp at hi'
     have hr : r = z := List.eq_of_mem_replicate (mem_of_getElem? hi)
     subst hr
     have hj' := (List.getElem?_eq_some_iff.1 hj).1
     obtain ⟨v, k1, k2, k3⟩ := z7 (w.alloc (.cells (madeCells zv.cells (c.toNat * r.length)) e)) (Mu X (β ++ [.lies w.heap.size c.toNat]) (H ++ [⟨e, szT C.P e, List.replicate l.toNat r, true, r.all AV.isDeep⟩])) j av hj
     refine ⟨v, ?_, k2, .deep k3, λ _ => k3⟩
     simp only [z5]
     have hm : (i * r.length + j) % r.length = j := by rw [add_comm, Nat.add_mul_mod_self_right, Nat.mod_eq_of_lt hj']
     rw [uS _ _ _ ?_ (by rw [z6]; exact hz0), z6, hm]
     ·exact k1
     ·have h1 : i + 1 <= c.toNat := by omega
      have h2 := mul_le_mul_right r.length h1
      rw [add_mul] at h2
      omega
   ·refine .own H.length l.toNat _ _ ⟨e, szT C.P e, List.replicate l.toNat z, true, z.all AV.isDeep⟩ (by simp) (by simp) (.inr ⟨_, rfl⟩) (by omega) λ _ => ?_
    rw [<- R.len]
    simp [Jw]
  ·cases h
 ·cases h
end
section
variable {C : Ctx} {w w' : World} {X : Nat -> Prop} {β : List BI} {H : List Blk}
theorem oA (cur : Array Value) (vs : List Value) (o k : Nat) (h : o + vs.length <= cur.size) : ((cur.toList.take o ++ vs ++ cur.toList.drop (o + vs.length)).toArray)[k]? = if o <= k /\ k < o + vs.length then vs[k - o]? else cur[k]? := by
 rw [List.getElem?_toArray]
 have hl : cur.toList.length = cur.size := by simp
 by_cases h1 : k < o
 ·rw [if_neg (by omega), append_assoc, getElem?_append_left (by simp; omega), getElem?_take, if_pos h1]
  simp
 ·by_cases h2 : k < o + vs.length
  ·rw [if_pos ⟨by omega, h2⟩, getElem?_append_left (by simp; omega), getElem?_append_right (by simp; omega)]
   simp only [length_take, Nat.min_eq_left (show o <= cur.toList.length by omega)]
  ·rw [if_neg (by omega), getElem?_append_right (by simp; omega), getElem?_drop]
   simp only [length_append, length_take, Nat.min_eq_left (show o <= cur.toList.length by omega)]
   rw [show o + vs.length + (k - (o + vs.length)) = k by omega]
   simp
theorem lW (cur : Array Value) (vs : List Value) (o : Nat) (h : o + vs.length <= cur.size) : ((cur.toList.take o ++ vs ++ cur.toList.drop (o + vs.length)).toArray).size = cur.size := by
 simp
 omega
theorem fg (w : World) {M : Nat -> Prop} {g : Nat} (hM : M g) (cs : Array Value) : Keeps M w (w.setRow g cs) :=
 ⟨rfl, rfl, rfl, by simp [World.setRow], λ b _ hn => setRow_other w g b cs (λ e => hn (e ▸ hM)), Drawn.of_le (le_refl _)⟩
theorem Lk {i i' j sz : Nat} (hj : j < sz) (h : i ≠ i') : i' * sz + j < i * sz ∨ i * sz + sz <= i' * sz + j := by
 rcases lt_or_ge i' i with h1 | h1
 ·left
  have := mul_le_mul_right sz (show i' + 1 <= i from h1)
  rw [add_mul] at this
  omega
 ·right
  have := mul_le_mul_right sz (show i + 1 <= i' by omega)
  rw [add_mul] at this
  omega
theorem yC (R : HRel w X β H) {t : TypeId} {p x : AV} {ob : Prop} {r : AV} {H' : List Blk} (h : tk C H t p x = some (ob, r, H')) (hob : ob) {vp vx : Value} (hp : Rep w (Mu X β H) β H vp p) (hx : Rep w (Mu X β H) β H vx x) :
  ∃ w' β', (Instr.storeAt t vp vx).run C.P w = .ok () w' /\ HRel w' X β' H' /\ StepR w β H w' β' H' /\ r = .tup [] := by
 unfold tk at h
 split at h
 ·rename_i l n sz i f
  split at h
  ·rename_i b hb
   split at h
   ·rename_i hmu
    obtain ⟨hmu, hz⟩ := hmu
    split at h
    ·rename_i cs hcs
     injection h with h; injection h with e1 e2; injection e2 with e2 e3; subst e1 e2 e3
     obtain ⟨o1, o2, o3, o4⟩ := hob
     subst o2
     obtain ⟨ad, b', rfl, hb', hn, hq⟩ := gB hp
     rw [hb] at hb'; injection hb' with hb'; subst hb'
     obtain ⟨bk, cap, hβ, rfl⟩ := hq o1 rfl o3
     have hB := R.blk l _ b hβ hb
     obtain ⟨cur, h1, h2, h3, h4, h5, h6, h7⟩ := hB
     obtain ⟨c1, c2⟩ := gz hcs hx
     have hi : i < b.rows.length := by omega
     have hvl : vx.cells.toList.length = cs.length := by simpa using c1.1
     have hrow : b.rows[i].length = b.sz := h6 _ (getElem_mem hi)
     have hfit : i * b.sz + f + 0 + vx.cells.toList.length <= cur.size := by
      rw [h2, hvl]
      have := mul_le_mul_right b.sz (show i + 1 <= cap by omega)
      rw [add_mul] at this
      omega
     have hone : ∀ v ∈ vx.cells.toList, v.oneCell' = true := by
      intro v hv
      obtain ⟨j, hj, rfl⟩ := getElem_of_mem hv
      obtain ⟨v', q1, q2, _⟩ := c1.2 j _ (getElem?_eq_getElem (by omega))
      have : vx.cells[j]? = some (vx.cells.toList[j]) := by simp at hj ⊢
      rw [this] at q1
      injection q1 with q1
      rw [q1]; exact q2
     have hst := run_storeCells_at C.P bk (i * b.sz + f) b.e vx.cells.toList 0 cur w h1 hfit hone
     simp only [add_zero] at hst hfit
     obtain ⟨cur', hcur', hget, hsize⟩ : ∃ cur', cur' = (cur.toList.take (i * b.sz + f) ++ vx.cells.toList ++ cur.toList.drop (i * b.sz + f + vx.cells.toList.length)).toArray /\
       (∀ k : Nat, cur'[k]? = if i * b.sz + f <= k /\ k < i * b.sz + f + cs.length then vx.cells.toList[k - (i * b.sz + f)]? else cur[k]?) /\ cur'.size = cur.size :=
      ⟨_, rfl, λ k => by rw [oA _ _ _ _ hfit, hvl], lW _ _ _ hfit⟩
     rw [<- hcur'] at hst
     clear hcur'
     have hM : MutB β H bk := ⟨l, cap, b, hβ, hb, hmu⟩
     have S := ed (w := w) R hb hβ (.lies bk cap) { b with rows := b.rows.set i (splice (kw b.rows i) f cs), deep := b.deep && cs.all AV.isDeep } rfl rfl (by simp) (λ _ => rfl) (λ h => h)
      (λ bk' c e => .inr ⟨c, e⟩) (fg w hM cur')
     refine ⟨_, β.set l (.lies bk cap), ?_, eG R hb hβ _ _ S (λ l' bk' c hl hb' => setRow_other w bk bk' _ (λ e => hl (R.inj l' l bk' c cap hb' (e ▸ hβ)))) ?_ (λ bk' c e => ?_) (λ bk' c l' c' e hl hb' => ?_), S, rfl⟩
     ·have hsz : vx.cells.size = szT C.P t := by rw [c1.1, c2]
      simp [Instr.storeAt, Instr.sureAddr, storeVar, aS (pos_of_ne_zero hz), hsz, hst]
     ·refine ⟨_, setRow_heap w bk cur _ b.e (0, 0) h1, by rw [hsize, h2], by simp; omega, h4, h5, λ r hr => ?_, λ i' j r av hr hj => ?_⟩
      ·rcases List.mem_or_eq_of_mem_set hr with hr | rfl
       ·exact h6 r hr
       ·rw [gt hi, jX _ _ _ (by omega), hrow]
      ·simp only [hget]
       by_cases e : i = i'
       ·subst e
        rw [getElem?_set_self hi] at hr
        injection hr with hr
        subst hr
        rw [gt hi, tO _ _ _ _ (by omega)] at hj
        by_cases hc : f <= j /\ j < f + cs.length
        ·rw [if_pos hc] at hj
         rw [if_pos (by omega), show i * b.sz + j - (i * b.sz + f) = j - f by omega]
         obtain ⟨v, q1, q2, q3⟩ := c1.2 _ av hj
         refine ⟨v, by simpa using q1, q2, q3.keep S, λ hd => ?_⟩
         simp only [Bool.and_eq_true] at hd
         exact ff (all_eq_true.1 hd.2 av (mem_of_getElem? hj)) (q3.keep S)
        ·rw [if_neg hc] at hj
         rw [if_neg (by omega)]
         obtain ⟨v, q1, q2, q3, q4⟩ := h7 i j _ av (getElem?_eq_getElem hi) hj
         refine ⟨v, q1, q2, q3.keep S, λ hd => ?_⟩
         simp only [Bool.and_eq_true] at hd
         exact (q4 hd.1).keep (λ b hb hn => S.keeps.block b hb (λ hm => hn (.inr hm))) S.keeps.size (λ b hb => S.mu b hb)
       ·rw [getElem?_set_ne e] at hr
        have hi' := (List.getElem?_eq_some_iff.1 hr).1
        have hjl : j < b.sz := by
         have := (List.getElem?_eq_some_iff.1 hj).1
         rw [h6 r (mem_of_getElem? hr)] at this
         exact this
        have := Lk (i := i) (i' := i') hjl e
        rw [if_neg (by omega)]
        obtain ⟨v, q1, q2, q3, q4⟩ := h7 i' j r av hr hj
        refine ⟨v, q1, q2, q3.keep S, λ hd => ?_⟩
        simp only [Bool.and_eq_true] at hd
        exact (q4 hd.1).keep (λ b hb hn => S.keeps.block b hb (λ hm => hn (.inr hm))) S.keeps.size (λ b hb => S.mu b hb)
     ·injection e with e1 e2
      subst e1
      exact ⟨lt_of_lt_of_le (R.lt l bk cap hβ).1 S.keeps.size, (R.lt l bk cap hβ).2⟩
     ·injection e with e1 e2
      subst e1
      exact hl (R.inj l' l bk c' cap hb' hβ)
    ·cases h
   ·cases h
  ·cases h
 ·cases h
def CY (w : World) (a : Option Addr) (n sz : Nat) (val : Nat -> Nat -> Value) : Prop :=
 n ≠ 0 -> ∃ b off, a = some ⟨b, off, none⟩ /\ ∀ i j, i < n -> j < sz -> w.cell? ⟨b, off + i * sz + j, none⟩ = some (val i j) /\ (val i j).oneCell' = true
def bR (val : Nat -> Nat -> Value) (n sz : Nat) : List Value := (List.range (n * sz)).map λ k => val (k / sz) (k % sz)
theorem aH (val : Nat -> Nat -> Value) (n sz : Nat) : (bR val n sz).length = n * sz := by simp [bR]
theorem e7 (val : Nat -> Nat -> Value) (n sz i j : Nat) (hi : i < n) (hj : j < sz) : (bR val n sz)[i * sz + j]? = some (val i j) := by
 have hlt : i * sz + j < n * sz := by
  have := mul_le_mul_right sz (show i + 1 <= n from hi)
  rw [add_mul] at this
  omega
 have h1 : (i * sz + j) / sz = i := by
  rw [add_comm, Nat.add_mul_div_right _ _ (by omega), Nat.div_eq_of_lt hj, zero_add]
 have h2 : (i * sz + j) % sz = j := by rw [add_comm, Nat.add_mul_mod_self_right, Nat.mod_eq_of_lt hj]
 simp [bR, hlt, h1, h2]
theorem co {w : World} {n sz : Nat} {val : Nat -> Nat -> Value} {b off : Nat} (h : ∀ i j, i < n -> j < sz -> w.cell? ⟨b, off + i * sz + j, none⟩ = some (val i j) /\ (val i j).oneCell' = true) {j : Nat} {v : Value} (hj : (bR val n sz)[j]? = some v) :
  w.cell? ((⟨b, off, none⟩ : Addr).add j) = some v /\ v.oneCell' = true := by
 have hlt := (List.getElem?_eq_some_iff.1 hj).1
 rw [aH] at hlt
 have hsz : 0 < sz := by
  rcases eq_zero_or_pos sz with h | h
  ·rw [h] at hlt; simp at hlt
  ·exact h
 have hdiv : j / sz < n := Nat.div_lt_of_lt_mul (by rw [Nat.mul_comm]; exact hlt)
 have hmod := mod_lt j hsz
 have e : j = j / sz * sz + j % sz := by rw [Nat.mul_comm]; exact (Nat.div_add_mod j sz).symm
 have h1 := e7 val n sz (j / sz) (j % sz) hdiv hmod
 rw [<- e, hj] at h1
 injection h1 with h1
 subst h1
 have h2 := h (j / sz) (j % sz) hdiv hmod
 rw [gW]
 rw [show off + j / sz * sz + j % sz = off + j by omega] at h2
 exact h2
theorem lO {P : Program} {t ty e : TypeId} (he : elT P t = some e) {z : List AV} (hz : zT P e = some z) {n cap m c : Nat} {a xa : Option Addr} (val xval : Nat -> Nat -> Value) (ha : CY w a n (szT P e) val) (hx : CY w xa m (szT P e) xval)
  (hm : m ≠ 0) (hcap : cap < n + m) (hb : (n + m) * byT P e <= 140737488355328) (hlen : n + m < 1000000000000) (hnone : a = none -> n = 0 /\ cap = 0) :
  ∃ cap' cur, (Builtin.append_ #[t, t] ty #[.slice a n cap, .slice xa m c]).run P w = .ok (.slice (some ⟨w.heap.size, 0, none⟩) (n + m) cap') (w.drew.alloc (.cells cur e)) /\ cur.size = cap' * szT P e /\ n + m <= cap' /\ cap' <= maxLen /\
   ∀ i j, i < n + m -> j < szT P e -> cur[i * szT P e + j]? = some (if i < n then val i j else xval (i - n) j) := by
 obtain ⟨i, zv, z1, z2, z3, z4, z5, z6, z7⟩ := cG hz
 have hby : byT P e = i.bytes := by simp [byT, z1]
 rw [hby] at hb
 have hsz : i.size = szT P e := by rw [z3, z5]
 obtain ⟨xb, xoff, rfl, hxc⟩ := hx hm
 have hml : n + m <= maxLen := by unfold maxLen; omega
 have get : ∀ (cs : Array Value) (cap' : Nat) (rest : Array Value), cs = (bR val n (szT P e)).toArray ++ (bR xval m (szT P e)).toArray ++ rest -> ∀ i j, i < n + m -> j < szT P e -> cs[i * szT P e + j]? = some (if i < n then val i j else xval (i - n) j) := by
  intro cs cap' rest hcs i j hi hj
  subst hcs
  have hlt : i * szT P e + j < (n + m) * szT P e := by
   have := mul_le_mul_right (szT P e) (show i + 1 <= n + m from hi)
   rw [add_mul] at this
   omega
  rw [Array.getElem?_append_left (by simp [aH, <- add_mul]; exact hlt)]
  by_cases hin : i < n
  ·have hlt2 : i * szT P e + j < n * szT P e := by
    have := mul_le_mul_right (szT P e) (show i + 1 <= n from hin)
    rw [add_mul] at this
    omega
   rw [Array.getElem?_append_left (by simp [aH]; exact hlt2), List.getElem?_toArray, e7 _ _ _ _ _ hin hj, if_pos hin]
  ·have hge : n * szT P e <= i * szT P e := mul_le_mul_right _ (by omega)
   rw [Array.getElem?_append_right (by simp [aH]; omega), List.getElem?_toArray, if_neg hin]
   simp only [List.size_toArray, aH]
   rw [show i * szT P e + j - n * szT P e = (i - n) * szT P e + j by rw [sub_mul]; omega]
   exact e7 _ _ _ _ _ (by omega) hj
 have hge := grownCap_ge w (n + m) cap e
 have hle := grownCap_le_maxLen w (n + m) cap e hml
 cases a with
 | none =>
  obtain ⟨rfl, rfl⟩ := hnone rfl
  have hr := run_append_nil (P := P) w t ty e i zv (bC he) z1 z2 ⟨xb, xoff, none⟩ m c (bR xval m (szT P e)) (by rw [aH, hsz]) (λ j v hj => (co hxc hj).1) (by omega) (by omega) (by rw [zero_add] at hb; omega)
  simp only [zero_add] at hge hle ⊢
  refine ⟨_, _, hr, ?_, hge, hle, ?_⟩
  ·simp [size_zeroCells, aH, z6, <- z5, <- add_mul]
   congr 1
   omega
  ·intro i j hi hj
   have h0 : bR val 0 (szT P e) = [] := by simp [bR]
   have := get ((bR val 0 (szT P e)).toArray ++ (bR xval m (szT P e)).toArray ++ Builtin.zeroCells zv.cells (grownCap w m 0 e - m)) 0 _ rfl i j (by omega) hj
   rw [h0] at this
   simpa using this
 | some ad =>
  have holds : ∀ (j : Nat) (v : Value), (bR val n (szT P e))[j]? = some v -> w.cell? (ad.add j) = some v := by
   intro j v hj
   by_cases hn : n = 0
   ·subst hn; simp [bR] at hj
   ·obtain ⟨b, off, e1, hc⟩ := ha hn
    injection e1 with e1
    subst e1
    exact (co hc hj).1
  have hr := run_append_grow (P := P) w t ty e i zv (bC he) z1 z2 ad n cap (bR val n (szT P e)) (by rw [aH, hsz]) holds ⟨xb, xoff, none⟩ m c (bR xval m (szT P e)) (by rw [aH, hsz]) (λ j v hj => (co hxc hj).1) hcap (by omega) (growslice_fits hcap hb)
  refine ⟨_, _, hr, ?_, hge, hle, λ i j hi hj => get _ 0 _ rfl i j hi hj⟩
  simp [size_zeroCells, aH, z6, <- z5, <- add_mul]
  congr 1
  omega
theorem lN {P : Program} {t ty e : TypeId} (he : elT P t = some e) (hz : 0 < szT P e) {n cap c : Nat} {a xa : Option Addr} (hn : n <= cap) : (Builtin.append_ #[t, t] ty #[.slice a n cap, .slice xa 0 c]).run P w = .ok (.slice a n cap) w := by
 have h1 : (Builtin.firstCells (szT P e) 0 (.slice xa 0 c)).run P w = .ok #[] w := by
  cases xa with
  | none => simp [Builtin.firstCells]
  | some x => simp [Builtin.firstCells, loadCells, loadCellsFrom]
 cases a with
 | none => simp [Builtin.append_, run_underlying (bC he), aS hz, Builtin.lenOf, hn, h1]
 | some ad => simp [Builtin.append_, run_underlying (bC he), aS hz, Builtin.lenOf, hn, h1, storeCells]
end
section
variable {C : Ctx} {w w' : World} {X : Nat -> Prop} {β : List BI} {H : List Blk}
theorem m8 {β' : List BI} {H' : List Blk} (S : StepR w β H w' β' H') {b : Blk} {cur : Array Value} {bk cap : Nat} (hw : w'.heap[bk]? = some (.cells cur b.e (0, 0))) (hcur : cur.size = cap * b.sz) (hle : b.rows.length <= cap) (hcm : cap <= maxLen) (hz : 0 < b.sz) (hr : ∀ r ∈ b.rows, r.length = b.sz)
  (hc : ∀ (i j : Nat) (r : List AV) (av : AV), b.rows[i]? = some r -> r[j]? = some av -> ∃ v, cur[i * b.sz + j]? = some v /\ v.oneCell' = true /\ Rep w (Mu X β H) β H v av /\ (b.deep = true -> RepD w (Mu X β H) v av)) :
  BlkRep w' (Mu X β' H') β' H' (.lies bk cap) b := by
 refine ⟨cur, hw, hcur, hle, hcm, hz, hr, λ i j r av hi hj => ?_⟩
 obtain ⟨v, h1, h2, h3, h4⟩ := hc i j r av hi hj
 exact ⟨v, h1, h2, h3.keep S, λ hd => (h4 hd).keep (λ b hb hn => S.keeps.block b hb (λ hm => hn (.inr hm))) S.keeps.size (λ b hb => S.mu b hb)⟩
theorem kz (R : HRel w X β H) {e : TypeId} {x : AV} {ob : Prop} {ys : List (List AV)} {dp : Bool} (h : (match x with
   | .slice sx _ ys => if sx = szT C.P e then some (True, ys, true) else none
   | .own l' n' => match H[l']? with
    | some b' => if b'.sz = szT C.P e then some (b'.rows.length = n', b'.rows, b'.deep) else none
    | none => none
   | .osl l' n' sz' off len => match H[l']? with
    | some b' => if b'.sz = szT C.P e /\ sz' = szT C.P e then some (b'.rows.length = n', (b'.rows.drop off).take len, b'.deep) else none
    | none => none
   | _ => none : Option (Prop × List (List AV) × Bool)) = some (ob, ys, dp)) (hob : ob) {vx : Value} (hx : Rep w (Mu X β H) β H vx x) :
  ∃ xa c xval, vx = .slice xa ys.length c /\ CY w xa ys.length (szT C.P e) xval /\ (∀ r ∈ ys, r.length = szT C.P e) /\ ∀ (i j : Nat) (r : List AV) (av : AV), ys[i]? = some r -> r[j]? = some av -> Rep w (Mu X β H) β H (xval i j) av /\ (dp = true -> RepD w (Mu X β H) (xval i j) av) := by
 split at h
 ·split at h
  ·rename_i hs
   injection h with h; injection h with e1 e2; injection e2 with e2 e3; subst e1 e2 e3
   obtain ⟨a, cap, val, rfl, h1, h2, h3, hr, hm, hv⟩ := dc (di hx)
   refine ⟨a, cap, val, rfl, λ h0 => ?_, λ r hr' => by rw [hr r hr', hs], λ i j r av hi hj => ⟨.deep (hv i j r av hi hj), λ _ => hv i j r av hi hj⟩⟩
   obtain ⟨b, off, rfl, _, _, hc⟩ := hm h0
   rw [<- hs]
   exact ⟨b, off, rfl, hc⟩
  ·cases h
 ·rename_i l' n'
  split at h
  ·rename_i b' hb'
   split at h
   ·rename_i hc
    injection h with h; injection h with e1 e2; injection e2 with e2 e3; subst e1 e2 e3
    obtain ⟨a, cap, b, rfl, hb, hn, h0, hq⟩ := gC hx
    rw [hb'] at hb; injection hb with hb; subst hb
    have hq := hq hob
    cases hβ : β[l']? with
    | none => rw [hβ] at hq; exact hq.elim
    | some bi =>
     rw [hβ] at hq
     have hB := R.blk l' bi b' hβ hb'
     rw [hob]
     cases bi with
     | nil =>
      obtain ⟨rfl, rfl⟩ := hq
      have : b'.rows = [] := hB.1
      rw [this]
      exact ⟨a, 0, λ _ _ => undef, rfl, λ h => absurd rfl h, λ r hr => (by cases hr), λ i j r av hi => (by simp at hi)⟩
     | lies bk c =>
      obtain ⟨rfl, rfl⟩ := hq
      obtain ⟨cur, h1, h2, h3, h4, h5, h6, h7⟩ := hB
      refine ⟨_, cap, λ i j => cur.getD (i * b'.sz + j) undef, rfl, λ _ => ⟨bk, 0, rfl, λ i j hi hj => ?_⟩, λ r hr => by rw [h6 r hr, hc], λ i j r av hi hj => ?_⟩
      ·have hi' : i < b'.rows.length := by omega
       have hrow : b'.rows[i].length = b'.sz := h6 _ (getElem_mem hi')
       rw [<- hc] at hj ⊢
       obtain ⟨v, k1, k2, _⟩ := h7 i j _ _ (getElem?_eq_getElem hi') (getElem?_eq_getElem (show j < b'.rows[i].length by omega))
       rw [show 0 + i * b'.sz + j = i * b'.sz + j by omega, cell_of_row w bk _ cur b'.e (0, 0) h1, k1]
       have : cur.getD (i * b'.sz + j) undef = v := by simp [Array.getD_eq_getD_getElem?, k1]
       show some v = some (cur.getD (i * b'.sz + j) undef) /\ (cur.getD (i * b'.sz + j) undef).oneCell' = true
       rw [this]
       exact ⟨rfl, k2⟩
      ·obtain ⟨v, k1, k2, k3, k4⟩ := h7 i j r av hi hj
       have : cur.getD (i * b'.sz + j) undef = v := by simp [Array.getD_eq_getD_getElem?, k1]
       show Rep w (Mu X β H) β H (cur.getD (i * b'.sz + j) undef) av /\ (b'.deep = true -> RepD w (Mu X β H) (cur.getD (i * b'.sz + j) undef) av)
       rw [this]
       exact ⟨k3, k4⟩
   ·cases h
  ·cases h
 ·rename_i l' n' sz' off len
  split at h
  ·rename_i b' hb'
   split at h
   ·rename_i hc
    obtain ⟨hc, hcs⟩ := hc
    injection h with h; injection h with e1 e2; injection e2 with e2 e3; subst e1 e2 e3
    obtain ⟨a, cap, b, rfl, hb, hn, hle, h0, hcap, hq⟩ := dU hx
    rw [hb'] at hb; injection hb with hb; subst hb
    have hq := hq hob (by rw [hc, hcs])
    have hlen : ((b'.rows.drop off).take len).length = len := by rw [length_take, length_drop]; omega
    rw [hlen]
    by_cases hz : len = 0
    ·subst hz
     refine ⟨a, cap, λ _ _ => undef, rfl, λ h => absurd rfl h, λ r hr => ?_, λ i j r av hi => ?_⟩
     ·rw [List.take_zero] at hr; cases hr
     ·rw [List.take_zero] at hi; simp at hi
    cases hβ : β[l']? with
    | none => rw [hβ] at hq; exact hq.elim
    | some bi =>
     rw [hβ] at hq
     have hB := R.blk l' bi b' hβ hb'
     cases bi with
     | nil => obtain ⟨_, q2, _⟩ := hq; exact absurd q2 hz
     | lies bk c =>
      obtain ⟨q1, q2, q3⟩ := hq
      have q3 := q3 (by omega)
      obtain ⟨cur, h1, h2, h3, h4, h5, h6, h7⟩ := hB
      have row : ∀ (i : Nat) (r : List AV), ((b'.rows.drop off).take len)[i]? = some r -> b'.rows[off + i]? = some r := λ i r h => by
       rw [getElem?_take] at h
       split at h
       ·rw [getElem?_drop] at h; exact h
       ·cases h
      refine ⟨a, cap, λ i j => cur.getD ((off + i) * b'.sz + j) undef, rfl, λ _ => ⟨bk, off * b'.sz, by rw [q3, hcs, hc], λ i j hi hj => ?_⟩, λ r hr => by rw [h6 r (mem_of_mem_drop (mem_of_mem_take hr)), hc], λ i j r av hi hj => ?_⟩
      ·have hi' : off + i < b'.rows.length := by omega
       have hrow : b'.rows[off + i].length = b'.sz := h6 _ (getElem_mem hi')
       rw [<- hc] at hj ⊢
       obtain ⟨v, k1, k2, _⟩ := h7 (off + i) j _ _ (getElem?_eq_getElem hi') (getElem?_eq_getElem (show j < b'.rows[off + i].length by omega))
       rw [show off * b'.sz + i * b'.sz + j = (off + i) * b'.sz + j by rw [add_mul], cell_of_row w bk _ cur b'.e (0, 0) h1, k1]
       have : cur.getD ((off + i) * b'.sz + j) undef = v := by simp [Array.getD_eq_getD_getElem?, k1]
       show some v = some (cur.getD ((off + i) * b'.sz + j) undef) /\ (cur.getD ((off + i) * b'.sz + j) undef).oneCell' = true
       rw [this]
       exact ⟨rfl, k2⟩
      ·obtain ⟨v, k1, k2, k3, k4⟩ := h7 (off + i) j r av (row i r hi) hj
       have : cur.getD ((off + i) * b'.sz + j) undef = v := by simp [Array.getD_eq_getD_getElem?, k1]
       show Rep w (Mu X β H) β H (cur.getD ((off + i) * b'.sz + j) undef) av /\ (b'.deep = true -> RepD w (Mu X β H) (cur.getD ((off + i) * b'.sz + j) undef) av)
       rw [this]
       exact ⟨k3, k4⟩
   ·cases h
  ·cases h
 ·cases h
theorem kJ (w : World) (o : Obj) : Keeps (λ _ => False) w (w.drew.alloc o) := (Keeps.drew _ w).trans (Keeps.alloc (λ _ => False) w.drew o) (λ _ _ h => h)
theorem sO {rows ys : List (List AV)} {i : Nat} {r : List AV} (h : (rows ++ ys)[i]? = some r) : (i < rows.length /\ rows[i]? = some r) ∨ (rows.length <= i /\ i - rows.length < ys.length /\ ys[i - rows.length]? = some r) := by
 rcases lt_or_ge i rows.length with h1 | h1
 ·rw [getElem?_append_left h1] at h; exact .inl ⟨h1, h⟩
 ·rw [getElem?_append_right h1] at h; exact .inr ⟨h1, (List.getElem?_eq_some_iff.1 h).1, h⟩
theorem AO {l : Nat} {b : Blk} (hb : H[l]? = some b) : H.set l b = H := by
 apply List.ext_getElem?
 intro k
 by_cases e : l = k
 ·subst e; rw [getElem?_set_self (List.getElem?_eq_some_iff.1 hb).1, hb]
 ·rw [getElem?_set_ne e]
theorem nM (R : HRel w X β H) {t : TypeId} {s x : AV} {ob : Prop} {r : AV} {H' : List Blk} (h : k8 C H t s x = some (ob, r, H')) (hob : ob) {vs vx : Value} (hs : Rep w (Mu X β H) β H vs s) (hx : Rep w (Mu X β H) β H vx x) (ty : TypeId) :
  ∃ u w' β', (Builtin.append_ #[t, t] ty #[vs, vx]).run C.P w = .ok u w' /\ HRel w' X β' H' /\ StepR w β H w' β' H' /\ Rep w' (Mu X β' H') β' H' u r := by
 unfold k8 at h
 split at h
 ·rename_i e he
  split at h
  ·cases h
  ·rename_i hz
   obtain ⟨z, hz⟩ : ∃ z, zT C.P e = some z := by cases hz' : zT C.P e <;> simp_all
   have hz0 : 0 < szT C.P e := by
    obtain ⟨i, zv, z1, z2, z3, z4, z5, z6, z7⟩ := cG hz
    omega
   split at h
   ·rename_i ob0 ys dp hsrc
    split at h
    ·
     rename_i sz rows
     split at h
     ·rename_i hsz
      injection h with h; injection h with e1 e2; injection e2 with e2 e3; subst e1 e2 e3
      obtain ⟨o0, o1, o2, o3⟩ := hob
      obtain ⟨xa, c, xval, rfl, hxr, hxl, hxv⟩ := kz R hsrc o0 hx
      obtain ⟨a, cap, val, rfl, k1, k2, k3, hr, hm, hv⟩ := dc (di hs)
      have hcap := k3 rfl
      subst hsz
      by_cases hy : ys = []
      ·have hrows : rows = [] := o1.resolve_right (λ h => h hy)
       subst hy hrows
       simp only [List.length_nil] at hcap
       subst hcap
       have hk := Keeps.refl (λ _ => False) w
       have S := dJ (w' := w) R hk .nil ⟨e, szT C.P e, [] ++ [], true, dp⟩ (λ bk c e => by cases e)
       refine ⟨_, w, β ++ [.nil], lN he hz0 (le_refl 0), eV R hk .nil _ (λ bk c e => by cases e) (λ bk c e => by cases e) ⟨rfl, hz0⟩, S, ?_⟩
       refine .own H.length 0 a 0 _ (aM H _) (le_refl _) (.inl rfl) (le_refl _) λ _ => ?_
       rw [<- R.len, aM]
       exact ⟨rfl, rfl⟩
      ·have hm0 : ys.length ≠ 0 := λ h => hy (length_eq_zero_iff.1 h)
       rw [length_append] at o2 o3
       obtain ⟨cap', cur, g1, g2, g3, g4, g5⟩ := lO (w := w) he hz (n := rows.length) (cap := cap) (m := ys.length) (c := c) (ty := ty) val xval (λ h0 => by
        obtain ⟨b, off, e1, _, _, hc⟩ := hm h0
        exact ⟨b, off, e1, hc⟩) hxr hm0 (by omega) o2 o3 (λ hn => by
         by_cases h0 : rows.length = 0
         ·exact ⟨h0, by omega⟩
         ·obtain ⟨b, off, e1, _⟩ := hm h0
          rw [hn] at e1; cases e1)
       have hk := kJ w (.cells cur e)
       have S := dJ R hk (.lies w.heap.size cap') ⟨e, szT C.P e, rows ++ ys, true, dp⟩ (λ bk c e => by injection e with e _; omega)
       refine ⟨_, _, β ++ [.lies w.heap.size cap'], g1, eV R hk _ _ (λ bk c e => by injection e with e _; omega) (λ bk c e => by injection e with e _; subst e; simp) ?_, S, ?_⟩
       ·refine m8 S (heap_alloc_new w.drew _) g2 (by simpa using g3) g4 hz0 (λ r hr' => ?_) (λ i j r av hi hj => ?_)
        ·rcases mem_append.1 hr' with h | h
         ·exact hr r h
         ·exact hxl r h
        ·have hil := (List.getElem?_eq_some_iff.1 hi).1
         rw [length_append] at hil
         have hjl := (List.getElem?_eq_some_iff.1 hj).1
         rcases sO hi with ⟨h1, h2⟩ | ⟨h1, h2, h3⟩
         ·have hjl' : j < szT C.P e := by rw [<- hr r (mem_of_getElem? h2)]; exact hjl
          have hg := g5 i j hil hjl'
          rw [if_pos h1] at hg
          obtain ⟨b, off, _, _, _, hc⟩ := hm (by omega)
          exact ⟨_, hg, (hc i j h1 hjl').2, .deep (hv i j r av h2 hj), λ _ => hv i j r av h2 hj⟩
         ·have hjl' : j < szT C.P e := by rw [<- hxl r (mem_of_getElem? h3)]; exact hjl
          have hg := g5 i j hil hjl'
          rw [if_neg (by omega)] at hg
          obtain ⟨b, off, _, hc⟩ := hxr hm0
          exact ⟨_, hg, (hc _ j h2 hjl').2, (hxv _ j r av h3 hj).1, (hxv _ j r av h3 hj).2⟩
       ·rw [length_append]
        refine .own H.length _ _ cap' _ (aM H _) (by simp) (.inr ⟨_, rfl⟩) (by omega) λ _ => ?_
        rw [<- R.len, aM]
        exact ⟨rfl, rfl⟩
     ·cases h
    ·
     rename_i l n
     split at h
     ·rename_i b hb
      split at h
      ·rename_i hmu
       injection h with h; injection h with e1 e2; injection e2 with e2 e3; subst e1 e2 e3
       obtain ⟨o0, od, o1, o2, o3⟩ := hob
       obtain ⟨xa, c, xval, rfl, hxr, hxl, hxv⟩ := kz R hsrc o0 hx
       obtain ⟨a, cap, b', rfl, hb', hn, h0, hq⟩ := gC hs
       rw [hb] at hb'; injection hb' with hb'; subst hb'
       have hq := hq o1
       cases hβ : β[l]? with
       | none => rw [hβ] at hq; exact hq.elim
       | some bi =>
        have hq' := hq
        rw [hβ] at hq
        have hB := R.blk l bi b hβ hb
        by_cases hy : ys = []
        ·subst hy
         have hdp : dp = true := od.resolve_right (λ h => h rfl)
         subst hdp
         have hcapn : n <= cap := by
          cases bi with
          | nil => obtain ⟨rfl, rfl⟩ := hq; exact le_refl _
          | lies bk c0 =>
           obtain ⟨rfl, rfl⟩ := hq
           obtain ⟨cur, h1, h2, h3, _⟩ := hB
           omega
         have hbb : ({ b with rows := b.rows ++ [], deep := b.deep && true } : Blk) = b := by cases b; simp
         rw [hbb, AO hb, List.append_nil, o1]
         exact ⟨_, w, β, lN he hz0 hcapn, R, StepR.refl w β H R.len, hs⟩
        ·have hm0 : ys.length ≠ 0 := λ h => hy (length_eq_zero_iff.1 h)
         have hne : (b.rows ++ ys).length ≠ b.rows.length := by rw [length_append]; omega
         rw [length_append] at o2 o3
         have hbs := hmu.2.2
         -- behind a growing append
         have grown : ∀ (val : Nat -> Nat -> Value) (cap' : Nat) (cur : Array Value), (∀ i j, i < n -> j < szT C.P e -> (val i j).oneCell' = true) ->
           (∀ (i j : Nat) (r : List AV) (av : AV), b.rows[i]? = some r -> r[j]? = some av -> Rep w (Mu X β H) β H (val i j) av /\ (b.deep = true -> RepD w (Mu X β H) (val i j) av)) -> (∀ r ∈ b.rows, r.length = szT C.P e) ->
           cur.size = cap' * szT C.P e -> n + ys.length <= cap' -> cap' <= maxLen -> (∀ i j, i < n + ys.length -> j < szT C.P e -> cur[i * szT C.P e + j]? = some (if i < n then val i j else xval (i - n) j)) ->
           ∃ β', HRel (w.drew.alloc (.cells cur e)) X β' (H.set l { b with rows := b.rows ++ ys, deep := b.deep && dp }) /\ StepR w β H (w.drew.alloc (.cells cur e)) β' (H.set l { b with rows := b.rows ++ ys, deep := b.deep && dp }) /\
            Rep (w.drew.alloc (.cells cur e)) (Mu X β' (H.set l { b with rows := b.rows ++ ys, deep := b.deep && dp })) β' (H.set l { b with rows := b.rows ++ ys, deep := b.deep && dp }) (.slice (some ⟨w.heap.size, 0, none⟩) (n + ys.length) cap') (.own l (b.rows ++ ys).length) := by
          intro val cap' cur hone hval hrl g2 g3 g4 g5
          have hk := kJ w (.cells cur e)
          have S := ed (w := w) R hb hβ (.lies w.heap.size cap') { b with rows := b.rows ++ ys, deep := b.deep && dp } rfl rfl (by simp) (λ h => absurd h hne) (λ h => h) (λ bk c e => by injection e with e _; exact .inl (by omega)) (hk.weaken λ _ _ h => h.elim)
          refine ⟨β.set l (.lies w.heap.size cap'), eG R hb hβ _ _ S (λ l' bk c hl hb' => hk.block bk (R.lt l' bk c hb').1 id) ?_ (λ bk c e => ?_) (λ bk c l' c' e hl hb' => ?_), S, ?_⟩
          ·refine m8 S (by rw [hmu.2.1]; exact heap_alloc_new w.drew _) (by rw [hbs]; exact g2) (by simp; omega) g4 (by rw [hbs]; exact hz0) (λ r hr' => ?_) (λ i j r av hi hj => ?_)
           ·rcases mem_append.1 hr' with h | h
            ·rw [hrl r h, hbs]
            ·rw [hxl r h, hbs]
           ·simp only [hbs]
            have hil := (List.getElem?_eq_some_iff.1 hi).1
            rw [length_append] at hil
            have hjl := (List.getElem?_eq_some_iff.1 hj).1
            rcases sO hi with ⟨h1, h2⟩ | ⟨h1, h2, h3⟩
            ·have hjl' : j < szT C.P e := by rw [<- hrl r (mem_of_getElem? h2)]; exact hjl
             have hg := g5 i j (by omega) hjl'
             rw [if_pos (by omega)] at hg
             obtain ⟨q1, q2⟩ := hval i j r av h2 hj
             exact ⟨_, hg, hone i j (by omega) hjl', q1, λ hd => q2 (Bool.and_eq_true_iff.1 hd).1⟩
            ·have hjl' : j < szT C.P e := by rw [<- hxl r (mem_of_getElem? h3)]; exact hjl
             have hg := g5 i j (by omega) hjl'
             rw [if_neg (by omega), show i - n = i - b.rows.length by omega] at hg
             obtain ⟨b0, off, _, hc⟩ := hxr hm0
             exact ⟨_, hg, (hc _ j h2 hjl').2, (hxv _ j r av h3 hj).1, λ hd => (hxv _ j r av h3 hj).2 (Bool.and_eq_true_iff.1 hd).2⟩
          ·injection e with e1 e2
           subst e1
           exact ⟨by simp, λ h => lt_irrefl _ (R.base _ h)⟩
          ·injection e with e1 e2
           subst e1
           exact lt_irrefl _ (R.lt l' _ c' hb').1
          ·rw [length_append, o1]
           refine .own l _ _ cap' { b with rows := b.rows ++ ys, deep := b.deep && dp } (getElem?_set_self (List.getElem?_eq_some_iff.1 hb).1) (by simp; omega) (.inr ⟨_, rfl⟩) (by omega) λ _ => ?_
           rw [getElem?_set_self (List.getElem?_eq_some_iff.1 hβ).1]
           exact ⟨rfl, rfl⟩
         cases bi with
         | nil =>
          obtain ⟨rfl, rfl⟩ := hq
          have hrows : b.rows = [] := length_eq_zero_iff.1 o1
          obtain ⟨cap', cur, g1, g2, g3, g4, g5⟩ := lO (w := w) he hz (n := 0) (cap := 0) (m := ys.length) (c := c) (ty := ty) (a := a) (λ _ _ => undef) xval (λ h0 => absurd rfl h0) hxr hm0 (by omega) (by rw [o1] at o2; exact o2) (by omega) (λ _ => ⟨rfl, rfl⟩)
          obtain ⟨β', R', S, hr⟩ := grown (λ _ _ => undef) cap' cur (λ i j hi => by omega) (λ i j r av hi => by rw [hrows] at hi; simp at hi) (λ r hr => by rw [hrows] at hr; cases hr) g2 g3 g4 g5
          exact ⟨_, _, β', g1, R', S, hr⟩
         | lies bk c0 =>
          obtain ⟨rfl, rfl⟩ := hq
          obtain ⟨cur0, h1, h2, h3, h4, h5, h6, h7⟩ := hB
          have cell : ∀ i j, i < n -> j < szT C.P e -> ∃ v, cur0[i * szT C.P e + j]? = some v /\ v.oneCell' = true := by
           intro i j hi hj
           have hi' : i < b.rows.length := by omega
           have hrow : b.rows[i].length = b.sz := h6 _ (getElem_mem hi')
           obtain ⟨v, k1, k2, _⟩ := h7 i j _ _ (getElem?_eq_getElem hi') (getElem?_eq_getElem (show j < b.rows[i].length by omega))
           rw [hbs] at k1
           exact ⟨v, k1, k2⟩
          by_cases hroom : n + ys.length <= cap
          ·obtain ⟨i0, zv, z1, z2, z3, z4, z5, z6, z7⟩ := cG hz
           have hisz : i0.size = szT C.P e := by rw [z3, z5]
           obtain ⟨xb, xoff, rfl, hxc⟩ := hxr hm0
           have hfit : n * szT C.P e + (bR xval ys.length (szT C.P e)).length <= cur0.size := by
            rw [aH, h2, hbs, <- add_mul]
            exact mul_le_mul_right _ hroom
           have hrun := run_append_room (P := C.P) w t ty e i0 (bC he) z1 bk n cap cur0 (by rw [<- hmu.2.1]; exact h1) ⟨xb, xoff, none⟩ ys.length c (bR xval ys.length (szT C.P e)) (by rw [aH, hisz]) (λ j u hj => (co hxc hj).1)
            (λ u hu => by obtain ⟨j, hj, rfl⟩ := getElem_of_mem hu; exact (co hxc (getElem?_eq_getElem hj)).2) hroom (by rw [hisz]; exact hfit)
           rw [hisz] at hrun
           obtain ⟨cur', hcur', hget, hsize⟩ : ∃ cur', cur' = (cur0.toList.take (n * szT C.P e) ++ bR xval ys.length (szT C.P e) ++ cur0.toList.drop (n * szT C.P e + (bR xval ys.length (szT C.P e)).length)).toArray /\
             (∀ k : Nat, cur'[k]? = if n * szT C.P e <= k /\ k < n * szT C.P e + ys.length * szT C.P e then (bR xval ys.length (szT C.P e))[k - n * szT C.P e]? else cur0[k]?) /\ cur'.size = cur0.size :=
            ⟨_, rfl, λ k => by rw [oA _ _ _ _ hfit, aH], lW _ _ _ hfit⟩
           rw [<- hcur'] at hrun
           clear hcur'
           have hM : MutB β H bk := ⟨l, cap, b, hβ, hb, hmu.1⟩
           have S := ed (w := w) R hb hβ (.lies bk cap) { b with rows := b.rows ++ ys, deep := b.deep && dp } rfl rfl (by simp) (λ h => absurd h hne) (λ h => h) (λ bk c e => .inr ⟨c, e⟩) (fg w hM cur')
           refine ⟨_, _, β.set l (.lies bk cap), hrun, eG R hb hβ _ _ S (λ l' bk' c hl hb' => setRow_other w bk bk' _ (λ e => hl (R.inj l' l bk' c cap hb' (e ▸ hβ)))) ?_ (λ bk' c e => ?_) (λ bk' c l' c' e hl hb' => ?_), S, ?_⟩
           ·refine m8 S (setRow_heap w bk cur0 _ b.e (0, 0) h1) (by rw [hsize, h2]) (by simp; omega) h4 (by rw [hbs]; exact hz0) (λ r hr' => ?_) (λ i j r av hi hj => ?_)
            ·rcases mem_append.1 hr' with h | h
             ·exact h6 r h
             ·rw [hxl r h, hbs]
            ·simp only [hbs, hget]
             have hjl := (List.getElem?_eq_some_iff.1 hj).1
             rcases sO hi with ⟨h1', h2'⟩ | ⟨h1', h2', h3'⟩
             ·have hjl' : j < szT C.P e := by rw [<- hbs, <- h6 r (mem_of_getElem? h2')]; exact hjl
              have hlt : i * szT C.P e + j < n * szT C.P e := by
               have := mul_le_mul_right (szT C.P e) (show i + 1 <= n by omega)
               rw [add_mul] at this
               omega
              rw [if_neg (by omega)]
              obtain ⟨v, q1, q2, q3, q4⟩ := h7 i j r av h2' hj
              rw [hbs] at q1
              exact ⟨v, q1, q2, q3, λ hd => q4 (Bool.and_eq_true_iff.1 hd).1⟩
             ·have hjl' : j < szT C.P e := by rw [<- hxl r (mem_of_getElem? h3')]; exact hjl
              have hge : n * szT C.P e <= i * szT C.P e := mul_le_mul_right _ (by omega)
              have hsub : i * szT C.P e + j - n * szT C.P e = (i - n) * szT C.P e + j := by rw [sub_mul]; omega
              have hlt : (i - n) * szT C.P e + j < ys.length * szT C.P e := by
               have := mul_le_mul_right (szT C.P e) (show i - n + 1 <= ys.length by omega)
               rw [add_mul] at this
               omega
              rw [if_pos (by omega), hsub, e7 _ _ _ _ _ (by omega) hjl']
              refine ⟨_, rfl, (hxc _ j (by omega) hjl').2, ?_⟩
              have := hxv (i - n) j r av (by rw [show i - n = i - b.rows.length by omega]; exact h3') hj
              exact ⟨this.1, λ hd => this.2 (Bool.and_eq_true_iff.1 hd).2⟩
           ·injection e with e1 e2
            subst e1
            exact ⟨lt_of_lt_of_le (R.lt l bk cap hβ).1 S.keeps.size, (R.lt l bk cap hβ).2⟩
           ·injection e with e1 e2
            subst e1
            exact hl (R.inj l' l bk c' cap hb' hβ)
           ·rw [length_append, o1]
            refine .own l _ _ cap { b with rows := b.rows ++ ys, deep := b.deep && dp } (getElem?_set_self (List.getElem?_eq_some_iff.1 hb).1) (by simp; omega) (.inr ⟨_, rfl⟩) (by omega) λ _ => ?_
            rw [getElem?_set_self (List.getElem?_eq_some_iff.1 hβ).1]
            exact ⟨rfl, rfl⟩
          ·obtain ⟨cap', cur, g1, g2, g3, g4, g5⟩ := lO (w := w) he hz (n := n) (cap := cap) (m := ys.length) (c := c) (ty := ty) (a := some ⟨bk, 0, none⟩) (λ i j => cur0.getD (i * szT C.P e + j) undef) xval (λ _ => ⟨bk, 0, rfl, λ i j hi hj => by
            obtain ⟨v, k1, k2⟩ := cell i j hi hj
            have : cur0.getD (i * szT C.P e + j) undef = v := by simp [Array.getD_eq_getD_getElem?, k1]
            rw [show 0 + i * szT C.P e + j = i * szT C.P e + j by omega, cell_of_row w bk _ cur0 b.e (0, 0) h1, k1]
            show some v = some (cur0.getD (i * szT C.P e + j) undef) /\ (cur0.getD (i * szT C.P e + j) undef).oneCell' = true
            rw [this]
            exact ⟨rfl, k2⟩⟩) hxr hm0 (by omega) (by rw [o1] at o2; exact o2) (by omega) (λ h => by cases h)
           obtain ⟨β', R', S, hr⟩ := grown (λ i j => cur0.getD (i * szT C.P e + j) undef) cap' cur (λ i j hi hj => by
             obtain ⟨v, k1, k2⟩ := cell i j hi hj
             have : cur0.getD (i * szT C.P e + j) undef = v := by simp [Array.getD_eq_getD_getElem?, k1]
             show (cur0.getD (i * szT C.P e + j) undef).oneCell' = true
             rw [this]; exact k2) (λ i j r av hi hj => by
             obtain ⟨v, q1, q2, q3, q4⟩ := h7 i j r av hi hj
             rw [hbs] at q1
             have : cur0.getD (i * szT C.P e + j) undef = v := by simp [Array.getD_eq_getD_getElem?, q1]
             show Rep w (Mu X β H) β H (cur0.getD (i * szT C.P e + j) undef) av /\ (b.deep = true -> RepD w (Mu X β H) (cur0.getD (i * szT C.P e + j) undef) av)
             rw [this]; exact ⟨q3, q4⟩) (λ r hr => by rw [<- hbs]; exact h6 r hr) g2 g3 g4 g5
           exact ⟨_, _, β', g1, R', S, hr⟩
      ·cases h
     ·cases h
    ·cases h
   ·cases h
 ·cases h
theorem ow (R : HRel w X β H) {l bk cap : Nat} {b : Blk} (hb : H[l]? = some b) (hβ : β[l]? = some (BI.lies bk cap)) (hmu : b.mu = true) (off : Nat) (ys : List (List AV)) (vs : List Value) (dp : Bool) (hlen : off + ys.length <= b.rows.length) (hvl : vs.length = ys.length * b.sz)
  (hone : ∀ v ∈ vs, v.oneCell' = true) (hyl : ∀ r ∈ ys, r.length = b.sz) (hv : ∀ (i j : Nat) (r : List AV) (av : AV), ys[i]? = some r -> r[j]? = some av -> ∃ v, vs[i * b.sz + j]? = some v /\ Rep w (Mu X β H) β H v av /\ (dp = true -> RepD w (Mu X β H) v av)) :
  ∃ w' β', (storeCells ⟨bk, off * b.sz, none⟩ vs).run C.P w = .ok () w' /\ HRel w' X β' (H.set l { b with rows := b.rows.take off ++ ys ++ b.rows.drop (off + ys.length), deep := b.deep && dp }) /\ StepR w β H w' β' (H.set l { b with rows := b.rows.take off ++ ys ++ b.rows.drop (off + ys.length), deep := b.deep && dp }) := by
 have hB := R.blk l _ b hβ hb
 obtain ⟨cur, h1, h2, h3, h4, h5, h6, h7⟩ := hB
 have hmulle : ∀ i j m : Nat, j < b.sz -> i < m -> i * b.sz + j < m * b.sz := λ i j m hj hi => by
  have := mul_le_mul_right b.sz (show i + 1 <= m from hi)
  rw [add_mul] at this
  omega
 have hfit : off * b.sz + 0 + vs.length <= cur.size := by
  rw [h2, hvl, add_zero, <- add_mul]
  exact mul_le_mul_right _ (by omega)
 have hst := run_storeCells_at C.P bk (off * b.sz) b.e vs 0 cur w h1 hfit hone
 simp only [add_zero] at hst hfit
 obtain ⟨cur', hcur', hget, hsize⟩ : ∃ cur', cur' = (cur.toList.take (off * b.sz) ++ vs ++ cur.toList.drop (off * b.sz + vs.length)).toArray /\
   (∀ k : Nat, cur'[k]? = if off * b.sz <= k /\ k < off * b.sz + vs.length then vs[k - off * b.sz]? else cur[k]?) /\ cur'.size = cur.size :=
  ⟨_, rfl, λ k => by rw [oA _ _ _ _ hfit], lW _ _ _ hfit⟩
 rw [<- hcur'] at hst
 clear hcur'
 have hM : MutB β H bk := ⟨l, cap, b, hβ, hb, hmu⟩
 have hrl : (b.rows.take off ++ ys ++ b.rows.drop (off + ys.length)).length = b.rows.length := by simp; omega
 have S := ed (w := w) R hb hβ (.lies bk cap) { b with rows := b.rows.take off ++ ys ++ b.rows.drop (off + ys.length), deep := b.deep && dp } rfl rfl (by simp only [hrl]; exact le_refl _) (λ _ => rfl) (λ h => h)
  (λ bk' c e => .inr ⟨c, e⟩) (fg w hM cur')
 refine ⟨_, β.set l (.lies bk cap), hst, eG R hb hβ _ _ S (λ l' bk' c hl hb' => setRow_other w bk bk' _ (λ e => hl (R.inj l' l bk' c cap hb' (e ▸ hβ)))) ?_ (λ bk' c e => ?_) (λ bk' c l' c' e hl hb' => ?_), S⟩
 ·have rowget : ∀ i r, (b.rows.take off ++ ys ++ b.rows.drop (off + ys.length))[i]? = some r -> (i < off /\ b.rows[i]? = some r) ∨ (off <= i /\ i < off + ys.length /\ ys[i - off]? = some r) ∨ (off + ys.length <= i /\ b.rows[i]? = some r) := by
   intro i r hr
   have hto : (b.rows.take off).length = off := by simp; omega
   rcases lt_or_ge i off with hi | hi
   ·rw [append_assoc, getElem?_append_left (by omega), getElem?_take, if_pos hi] at hr
    exact .inl ⟨hi, hr⟩
   ·rcases lt_or_ge i (off + ys.length) with hi2 | hi2
    ·rw [getElem?_append_left (by simp; omega), getElem?_append_right (by omega), hto] at hr
     exact .inr (.inl ⟨hi, hi2, hr⟩)
    ·rw [getElem?_append_right (by simp; omega), getElem?_drop] at hr
     simp only [length_append, hto] at hr
     rw [show off + ys.length + (i - (off + ys.length)) = i by omega] at hr
     exact .inr (.inr ⟨hi2, hr⟩)
  refine ⟨_, setRow_heap w bk cur _ b.e (0, 0) h1, by rw [hsize, h2], by rw [hrl]; exact h3, h4, h5, λ r hr => ?_, λ i' j r av hr hj => ?_⟩
  ·obtain ⟨i, hi⟩ := List.getElem?_of_mem hr
   rcases rowget i r hi with ⟨_, h⟩ | ⟨_, _, h⟩ | ⟨_, h⟩
   ·exact h6 r (mem_of_getElem? h)
   ·exact hyl r (mem_of_getElem? h)
   ·exact h6 r (mem_of_getElem? h)
  ·simp only [hget]
   have old : b.rows[i']? = some r -> ¬ (off * b.sz <= i' * b.sz + j /\ i' * b.sz + j < off * b.sz + vs.length) -> ∃ v, (if off * b.sz <= i' * b.sz + j /\ i' * b.sz + j < off * b.sz + vs.length then vs[i' * b.sz + j - off * b.sz]? else cur[i' * b.sz + j]?) = some v /\ v.oneCell' = true /\ Rep (w.setRow bk cur') (Mu X (β.set l (.lies bk cap)) (H.set l { b with rows := b.rows.take off ++ ys ++ b.rows.drop (off + ys.length), deep := b.deep && dp })) (β.set l (.lies bk cap)) (H.set l { b with rows := b.rows.take off ++ ys ++ b.rows.drop (off + ys.length), deep := b.deep && dp }) v av /\ ((b.deep && dp) = true -> RepD (w.setRow bk cur') (Mu X (β.set l (.lies bk cap)) (H.set l { b with rows := b.rows.take off ++ ys ++ b.rows.drop (off + ys.length), deep := b.deep && dp })) v av) := by
    intro hr hn
    rw [if_neg hn]
    obtain ⟨v, q1, q2, q3, q4⟩ := h7 i' j r av hr hj
    refine ⟨v, q1, q2, q3.keep S, λ hd => ?_⟩
    simp only [Bool.and_eq_true] at hd
    exact (q4 hd.1).keep (λ b hb hn => S.keeps.block b hb (λ hm => hn (.inr hm))) S.keeps.size (λ b hb => S.mu b hb)
   have hjl : b.rows[i']? = some r ∨ ys[i' - off]? = some r -> j < b.sz := λ h => by
    have := (List.getElem?_eq_some_iff.1 hj).1
    rcases h with h | h
    ·rw [h6 r (mem_of_getElem? h)] at this; exact this
    ·rw [hyl r (mem_of_getElem? h)] at this; exact this
   rcases rowget i' r hr with ⟨hi, h⟩ | ⟨hi, hi2, h⟩ | ⟨hi, h⟩
   ·refine old h ?_
    have := hmulle i' j off (hjl (.inl h)) hi
    omega
   ·have hj' := hjl (.inr h)
    have e1 : off * b.sz + (i' - off) * b.sz = i' * b.sz := by rw [<- add_mul]; congr 1; omega
    have e2 := hmulle (i' - off) j ys.length hj' (by omega)
    obtain ⟨v, q1, q3, q4⟩ := hv (i' - off) j r av h hj
    rw [if_pos (by omega), show i' * b.sz + j - off * b.sz = (i' - off) * b.sz + j by omega]
    refine ⟨v, q1, hone v (mem_of_getElem? q1), q3.keep S, λ hd => ?_⟩
    simp only [Bool.and_eq_true] at hd
    exact (q4 hd.2).keep (λ b hb hn => S.keeps.block b hb (λ hm => hn (.inr hm))) S.keeps.size (λ b hb => S.mu b hb)
   ·refine old h ?_
    have := mul_le_mul_right b.sz hi
    rw [add_mul] at this
    omega
 ·injection e with e1 e2
  subst e1
  exact ⟨lt_of_lt_of_le (R.lt l bk cap hβ).1 S.keeps.size, (R.lt l bk cap hβ).2⟩
 ·injection e with e1 e2
  subst e1
  exact hl (R.inj l' l bk c' cap hb' hβ)
theorem yS (R : HRel w X β H) {t : TypeId} {s : AV} {ob : Prop} {r : AV} {H' : List Blk} (h : ye C H t s = some (ob, r, H')) (hob : ob) {vs : Value} (hs : Rep w (Mu X β H) β H vs s) (ty : TypeId) :
  ∃ w' β', (Builtin.clear_ #[t] ty #[vs]).run C.P w = .ok (.tuple #[]) w' /\ HRel w' X β' H' /\ StepR w β H w' β' H' /\ r = .tup [] := by
 unfold ye at h
 split at h
 ·rename_i e l n sz off len he
  split at h
  ·rename_i z b hz hb
   split at h
   ·rename_i hc
    obtain ⟨hmu, hsz⟩ := hc
    injection h with h; injection h with e1 e2; injection e2 with e2 e3; subst e1 e2 e3
    obtain ⟨o1, o2⟩ := hob
    obtain ⟨i, zv, z1, z2, z3, z4, z5, z6, z7⟩ := cG hz
    obtain ⟨a, cap, b', rfl, hb', hn, hle, h0, hcap, hx⟩ := dU hs
    rw [hb] at hb'; injection hb' with hb'; subst hb'
    have hx := hx o1 o2
    have hzr : (zeroValue e).run C.P w = .ok zv w := by simp [zeroValue, typeInfo, z1, z2]
    have hbsz : b.sz = z.length := by rw [o2, hsz, z5]
    rcases eq_zero_or_pos len with hl0 | hl0
    ·subst hl0
     have hbb : ({ b with rows := b.rows.take off ++ List.replicate 0 z ++ b.rows.drop (off + 0), deep := b.deep && z.all AV.isDeep } : Blk) = { b with deep := b.deep && z.all AV.isDeep } := by simp
     rw [hbb]
     have hβ : ∃ bi, β[l]? = some bi := by
      cases hβ : β[l]? with
      | none => rw [hβ] at hx; exact hx.elim
      | some bi => exact ⟨bi, rfl⟩
     obtain ⟨bi, hβ⟩ := hβ
     have hB := R.blk l bi b hβ hb
     have S := ed (w := w) (w' := w) R hb hβ bi { b with deep := b.deep && z.all AV.isDeep } rfl rfl (le_refl _) (λ _ => rfl) (λ h => h) (λ bk c e => .inr ⟨c, e⟩) (Keeps.refl _ _)
     refine ⟨w, β.set l bi, ?_, eG R hb hβ _ _ S (λ _ _ _ _ _ => rfl) ?_ (λ bk c e => by subst e; exact R.lt l bk c hβ) (λ bk c l' c' e hl hb' => by subst e; exact hl (R.inj l' l bk c' c hb' hβ)), S, rfl⟩
     ·cases a <;> simp [Builtin.clear_, run_underlying (bC he)]
     ·cases bi with
      | nil => exact hB
      | lies bk c =>
       obtain ⟨cur, h1, h2, h3, h4, h5, h6, h7⟩ := hB
       refine ⟨cur, h1, h2, h3, h4, h5, h6, λ i j r av hr hj => ?_⟩
       obtain ⟨v, q1, q2, q3, q4⟩ := h7 i j r av hr hj
       refine ⟨v, q1, q2, q3.keep S, λ hd => ?_⟩
       simp only [Bool.and_eq_true] at hd
       exact (q4 hd.1).keep (λ b hb hn => S.keeps.block b hb (λ hm => hn (.inr hm))) S.keeps.size (λ b hb => S.mu b hb)
    ·cases hβ : β[l]? with
     | none => rw [hβ] at hx; exact hx.elim
     | some bi =>
      rw [hβ] at hx
      cases bi with
      | nil => have := hx.2.1; omega
      | lies bk c =>
       obtain ⟨hoc, rfl, hadr⟩ := hx
       have hadr := hadr (by omega)
       subst hadr
       have hzget : ∀ i j, i < len -> j < z.length -> (Builtin.zeroCells zv.cells len).toList[i * z.length + j]? = zv.cells[j]? := by
        intro i j hi hj
        have hlt : i * z.length + j < len * z.length := by
         have := mul_le_mul_right z.length (show i + 1 <= len from hi)
         rw [add_mul] at this
         omega
        rw [Array.getElem?_toList]
        simp only [Builtin.zeroCells, Array.getElem?_map]
        have hm : (i * z.length + j) % zv.cells.size = j := by rw [z6, add_comm, Nat.add_mul_mod_self_right, Nat.mod_eq_of_lt hj]
        rw [Array.getElem?_range, if_pos (by rw [z6]; first | exact hlt | (rw [Nat.mul_comm z.length]; exact hlt))]
        simp only [map_some, hm]
        rw [getElem!_pos zv.cells j (by omega), Array.getElem?_eq_getElem (by omega)]
       have hzlen : (Builtin.zeroCells zv.cells len).toList.length = len * z.length := by simp [size_zeroCells, z6]
       obtain ⟨w', β', g1, g2, g3⟩ := ow (C := C) R hb hβ hmu off (List.replicate len z) (Builtin.zeroCells zv.cells len).toList (z.all AV.isDeep) (by simp; omega) (by rw [hzlen, hbsz]; simp) (λ v hv => by
        obtain ⟨k, hk⟩ := List.getElem?_of_mem hv
        have hk' := (List.getElem?_eq_some_iff.1 hk).1
        rw [hzlen] at hk'
        have hzp : 0 < z.length := by omega
        have hkm : k % z.length < z.length := mod_lt _ hzp
        have hkd : k / z.length < len := Nat.div_lt_of_lt_mul (by rw [Nat.mul_comm]; exact hk')
        have e := hzget (k / z.length) (k % z.length) hkd hkm
        rw [show k / z.length * z.length + k % z.length = k by rw [Nat.mul_comm]; exact Nat.div_add_mod k _] at e
        rw [hk] at e
        obtain ⟨v', k1, k2, k3⟩ := z7 w (λ _ => False) (k % z.length) _ (getElem?_eq_getElem hkm)
        rw [k1] at e
        injection e with e
        rw [e]; exact k2) (λ r hr => by rw [List.eq_of_mem_replicate hr, hbsz]) (λ i j r av hi hj => by
        have hi' := (List.getElem?_eq_some_iff.1 hi).1
        rw [List.length_replicate] at hi'
        have hr : r = z := List.eq_of_mem_replicate (mem_of_getElem? hi)
        subst hr
        have hj' := (List.getElem?_eq_some_iff.1 hj).1
        obtain ⟨v, k1, k2, k3⟩ := z7 w (Mu X β H) j av hj
        rw [hbsz, hzget i j hi' hj']
        exact ⟨v, k1, .deep k3, λ _ => k3⟩)
       refine ⟨w', β', ?_, ?_, ?_, rfl⟩
       ·obtain ⟨m, rfl⟩ : ∃ m, len = m + 1 := ⟨len - 1, by omega⟩
        rw [<- o2]
        simp [Builtin.clear_, run_underlying (bC he), hzr, g1]
       ·simpa using g2
       ·simpa using g3
   ·cases h
  ·cases h
 ·cases h
theorem zi {rows ys : List (List AV)} {len i : Nat} {r : List AV} (h : len + ys.length <= rows.length) (hi : (rows.take len ++ ys ++ rows.drop (len + ys.length))[i]? = some r) : (i < len /\ rows[i]? = some r) ∨ (len <= i /\ i < len + ys.length /\ ys[i - len]? = some r) ∨ (len + ys.length <= i /\ rows[i]? = some r) := by
 have ht : (rows.take len).length = len := by rw [length_take]; omega
 rcases lt_or_ge i len with h1 | h1
 ·rw [append_assoc, getElem?_append_left (by omega), getElem?_take, if_pos h1] at hi
  exact .inl ⟨h1, hi⟩
 ·rcases lt_or_ge i (len + ys.length) with h2 | h2
  ·rw [getElem?_append_left (by rw [length_append]; omega), getElem?_append_right (by omega), ht] at hi
   exact .inr (.inl ⟨h1, h2, hi⟩)
  ·rw [getElem?_append_right (by rw [length_append]; omega), length_append, ht, getElem?_drop, show len + ys.length + (i - (len + ys.length)) = i by omega] at hi
   exact .inr (.inr ⟨h2, hi⟩)
theorem Fb {l n sz : Nat} {b : Blk} {v : Value} (h : Rep w (Mu X β H) β H v (.osl l n sz 0 n)) (hb : H[l]? = some b) (hn : b.rows.length = n) (hs : b.sz = sz) (h0 : 0 < n) : Rep w (Mu X β H) β H v (.own l n) := by
 obtain ⟨a, cap, b', rfl, hb', k1, k2, k3, k4, k5⟩ := dU h
 rw [hb] at hb'; injection hb' with hb'; subst hb'
 refine .own l n a cap b hb k1 (k3.imp Eq.symm id) (by omega) λ _ => ?_
 have hq := k5 hn hs
 cases hβ : β[l]? with
 | none => rw [hβ] at hq; exact hq.elim
 | some bi =>
  rw [hβ] at hq
  cases bi with
  | nil => obtain ⟨_, q2, _⟩ := hq; omega
  | lies bk c =>
   obtain ⟨q1, q2, q3⟩ := hq
   refine ⟨?_, by omega⟩
   rw [q3 (by omega), zero_mul]
theorem za (R : HRel w X β H) {t e : TypeId} {z : List AV} {l n sz len off' len' : Nat} {b : Blk} (he : elT C.P t = some e) (hz : zT C.P e = some z) (hb : H[l]? = some b) (c2 : b.mu = true) (c3 : b.e = e) (c4 : b.sz = szT C.P e) (c5 : sz = szT C.P e) (o1 : b.rows.length = n) (o2 : len + len' <= n)
  {vs vx : Value} (hs : Rep w (Mu X β H) β H vs (.osl l n sz 0 len)) (hx : Rep w (Mu X β H) β H vx (.osl l n (szT C.P e) off' len')) (ty : TypeId) :
  ∃ u w' β', (Builtin.append_ #[t, t] ty #[vs, vx]).run C.P w = .ok u w' /\ HRel w' X β' (H.set l { b with rows := b.rows.take len ++ (b.rows.drop off').take len' ++ b.rows.drop (len + len') }) /\ StepR w β H w' β' (H.set l { b with rows := b.rows.take len ++ (b.rows.drop off').take len' ++ b.rows.drop (len + len') }) /\
   Rep w' (Mu X β' (H.set l { b with rows := b.rows.take len ++ (b.rows.drop off').take len' ++ b.rows.drop (len + len') })) β' (H.set l { b with rows := b.rows.take len ++ (b.rows.drop off').take len' ++ b.rows.drop (len + len') }) u (.osl l n sz 0 (len + len')) := by
 have hz0 : 0 < szT C.P e := by
  obtain ⟨i, zv, z1, z2, z3, z4, z5, z6, z7⟩ := cG hz
  omega
 obtain ⟨xa0, xcap0, xb0, _, xhb, _, xle, _, _, _⟩ := dU hx
 obtain ⟨xa, c, xval, rfl, hxr, hxl, hxv⟩ := kz (C := C) (e := e) (x := .osl l n (szT C.P e) off' len') (ob := b.rows.length = n) (ys := (b.rows.drop off').take len') (dp := b.deep) R (by simp only [hb, c4, and_self, if_true]) o1 hx
 have hyl : ((b.rows.drop off').take len').length = len' := by rw [length_take, length_drop]; omega
 generalize (b.rows.drop off').take len' = ys at hxr hxl hxv hyl ⊢
 subst hyl
 obtain ⟨a, cap, b', rfl, hb', k1, k2, k3, k4, k5⟩ := dU hs
 rw [hb] at hb'; injection hb' with hb'; subst hb'
 have hq := k5 o1 (by rw [c4, c5])
 by_cases hm0 : ys.length = 0
 ·have hy : ys = [] := length_eq_zero_iff.1 hm0
  subst hy
  have hbb : ({ b with rows := b.rows.take len ++ [] ++ b.rows.drop (len + 0) } : Blk) = b := by cases b; simp
  simp only [List.length_nil] at hbb ⊢
  rw [hbb, AO hb]
  exact ⟨_, w, β, lN he hz0 (by omega), R, StepR.refl w β H R.len, hs⟩
 cases hβ : β[l]? with
 | none => rw [hβ] at hq; exact hq.elim
 | some bi =>
  rw [hβ] at hq
  have hB := R.blk l bi b hβ hb
  cases bi with
  | nil => have h2 : b.rows = [] := hB.1; rw [h2] at o1; simp at o1; omega
  | lies bk c0 =>
   obtain ⟨q1, q2, q3⟩ := hq
   obtain ⟨cur0, h1, h2, h3, h4, h5, h6, h7⟩ := hB
   have ha := q3 (by omega)
   rw [zero_mul] at ha
   subst ha
   obtain rfl : cap = c0 := by omega
   obtain ⟨i0, zv, z1, z2, z3, z4, z5, z6, z7⟩ := cG hz
   have hisz : i0.size = szT C.P e := by rw [z3, z5]
   obtain ⟨xb, xoff, rfl, hxc⟩ := hxr hm0
   have hroom : len + ys.length <= cap := by omega
   have hfit : len * szT C.P e + (bR xval ys.length (szT C.P e)).length <= cur0.size := by
    rw [aH, h2, c4, <- add_mul]
    exact mul_le_mul_right _ hroom
   have hrun := run_append_room (P := C.P) w t ty e i0 (bC he) z1 bk len cap cur0 (by rw [<- c3]; exact h1) ⟨xb, xoff, none⟩ ys.length c (bR xval ys.length (szT C.P e)) (by rw [aH, hisz]) (λ j u hj => (co hxc hj).1)
    (λ u hu => by obtain ⟨j, hj, rfl⟩ := getElem_of_mem hu; exact (co hxc (getElem?_eq_getElem hj)).2) hroom (by rw [hisz]; exact hfit)
   rw [hisz] at hrun
   obtain ⟨cur', hcur', hget, hsize⟩ : ∃ cur', cur' = (cur0.toList.take (len * szT C.P e) ++ bR xval ys.length (szT C.P e) ++ cur0.toList.drop (len * szT C.P e + (bR xval ys.length (szT C.P e)).length)).toArray /\
     (∀ k : Nat, cur'[k]? = if len * szT C.P e <= k /\ k < len * szT C.P e + ys.length * szT C.P e then (bR xval ys.length (szT C.P e))[k - len * szT C.P e]? else cur0[k]?) /\ cur'.size = cur0.size :=
    ⟨_, rfl, λ k => by rw [oA _ _ _ _ hfit, aH], lW _ _ _ hfit⟩
   rw [<- hcur'] at hrun
   clear hcur'
   have hlen : (b.rows.take len ++ ys ++ b.rows.drop (len + ys.length)).length = b.rows.length := by
    rw [length_append, length_append, length_take, length_drop]; omega
   have hM : MutB β H bk := ⟨l, cap, b, hβ, hb, c2⟩
   have S := ed (w := w) R hb hβ (.lies bk cap) { b with rows := b.rows.take len ++ ys ++ b.rows.drop (len + ys.length) } rfl rfl (by rw [hlen]; exact le_refl _) (λ _ => rfl) (λ h => h) (λ bk c e => .inr ⟨c, e⟩) (fg w hM cur')
   refine ⟨_, _, β.set l (.lies bk cap), hrun, eG R hb hβ _ _ S (λ l' bk' c hl hb' => setRow_other w bk bk' _ (λ e => hl (R.inj l' l bk' c cap hb' (e ▸ hβ)))) ?_ (λ bk' c e => ?_) (λ bk' c l' c' e hl hb' => ?_), S, ?_⟩
   ·refine m8 S (setRow_heap w bk cur0 _ b.e (0, 0) h1) (by rw [hsize, h2]) (by rw [hlen]; exact h3) h4 (by rw [c4]; exact hz0) (λ r hr' => ?_) (λ i j r av hi hj => ?_)
    ·rcases mem_append.1 hr' with h | h
     ·rcases mem_append.1 h with h | h
      ·exact h6 r (mem_of_mem_take h)
      ·rw [hxl r h, c4]
     ·exact h6 r (mem_of_mem_drop h)
    ·simp only [c4, hget]
     have hjl := (List.getElem?_eq_some_iff.1 hj).1
     rcases zi (by omega) hi with ⟨h1', h2'⟩ | ⟨h1', h2', h3'⟩ | ⟨h1', h2'⟩
     ·have hjl' : j < szT C.P e := by rw [<- c4, <- h6 r (mem_of_getElem? h2')]; exact hjl
      have hlt : i * szT C.P e + j < len * szT C.P e := by
       have := mul_le_mul_right (szT C.P e) (show i + 1 <= len by omega)
       rw [add_mul] at this
       omega
      rw [if_neg (by omega)]
      obtain ⟨v, q1, q2, q3, q4⟩ := h7 i j r av h2' hj
      rw [c4] at q1
      exact ⟨v, q1, q2, q3, q4⟩
     ·have hjl' : j < szT C.P e := by rw [<- hxl r (mem_of_getElem? h3')]; exact hjl
      have hge : len * szT C.P e <= i * szT C.P e := mul_le_mul_right _ (by omega)
      have hsub : i * szT C.P e + j - len * szT C.P e = (i - len) * szT C.P e + j := by rw [sub_mul]; omega
      have hlt : (i - len) * szT C.P e + j < ys.length * szT C.P e := by
       have := mul_le_mul_right (szT C.P e) (show i - len + 1 <= ys.length by omega)
       rw [add_mul] at this
       omega
      rw [if_pos (by omega), hsub, e7 _ _ _ _ _ (by omega) hjl']
      refine ⟨_, rfl, (hxc _ j (by omega) hjl').2, ?_⟩
      exact hxv (i - len) j r av h3' hj
     ·have hjl' : j < szT C.P e := by rw [<- c4, <- h6 r (mem_of_getElem? h2')]; exact hjl
      have hge : (len + ys.length) * szT C.P e <= i * szT C.P e := mul_le_mul_right _ h1'
      rw [add_mul] at hge
      rw [if_neg (by omega)]
      obtain ⟨v, q1, q2, q3, q4⟩ := h7 i j r av h2' hj
      rw [c4] at q1
      exact ⟨v, q1, q2, q3, q4⟩
   ·injection e with e1 e2
    subst e1
    exact ⟨lt_of_lt_of_le (R.lt l bk cap hβ).1 S.keeps.size, (R.lt l bk cap hβ).2⟩
   ·injection e with e1 e2
    subst e1
    exact hl (R.inj l' l bk c' cap hb' hβ)
   ·have hb2 : (H.set l { b with rows := b.rows.take len ++ ys ++ b.rows.drop (len + ys.length) })[l]? = some { b with rows := b.rows.take len ++ ys ++ b.rows.drop (len + ys.length) } := getElem?_set_self (List.getElem?_eq_some_iff.1 hb).1
    refine .osl l n sz 0 (len + ys.length) _ cap { b with rows := b.rows.take len ++ ys ++ b.rows.drop (len + ys.length) } hb2 (by rw [hlen]; exact k1) (by omega) (.inr ⟨_, rfl⟩) (by omega) λ _ _ => ?_
    rw [getElem?_set_self (List.getElem?_eq_some_iff.1 hβ).1]
    exact ⟨by omega, by omega, λ _ => by rw [zero_mul]⟩
theorem Al (R : HRel w X β H) {t : TypeId} {s x : AV} {ob : Prop} {r : AV} {H' : List Blk} (h : vz C H t s x = some (ob, r, H')) (hob : ob) {vs vx : Value} (hs : Rep w (Mu X β H) β H vs s) (hx : Rep w (Mu X β H) β H vx x) (ty : TypeId) :
  ∃ u w' β', (Builtin.append_ #[t, t] ty #[vs, vx]).run C.P w = .ok u w' /\ HRel w' X β' H' /\ StepR w β H w' β' H' /\ Rep w' (Mu X β' H') β' H' u r := by
 unfold vz at h
 split at h
 case h_2 => exact nM R h hob hs hx ty
 rename_i l n sz off len
 split at h
 ·cases h
 rename_i hoff
 have hoff : off = 0 := by omega
 subst hoff
 split at h
 ·rename_i hln
  subst hln
  split at h
  ·rename_i ob' r' H'' b hap hb
   injection h with h; injection h with e1 e2; injection e2 with e2 e3; subst e1 e2 e3
   obtain ⟨o1, o2, o3, o4⟩ := hob
   exact nM R hap o1 (Fb hs hb o3 o4 o2) hx ty
  ·cases h
 rename_i hln
 split at h
 case h_3 => cases h
 case h_2 =>
  rename_i e b l' n' sz' off' len' he hb
  split at h
  ·cases h
  rename_i hz
  obtain ⟨z, hz⟩ : ∃ z, zT C.P e = some z := by cases hz' : zT C.P e <;> simp_all
  split at h
  case isFalse => cases h
  rename_i hc
  obtain ⟨rfl, rfl, rfl, c2, c3, c4, c5⟩ := hc
  injection h with h; injection h with e1 e2; injection e2 with e2 e3; subst e1 e2 e3
  exact za R he hz hb c2 c3 c4 c5 hob.1 hob.2 hs hx ty
 rename_i e b sx fx ys he hb
 split at h
 ·cases h
 rename_i hz
 obtain ⟨z, hz⟩ : ∃ z, zT C.P e = some z := by cases hz' : zT C.P e <;> simp_all
 split at h
 case isFalse => cases h
 rename_i hc
 obtain ⟨c1, c2, c3, c4, c5⟩ := hc
 injection h with h; injection h with e1 e2; injection e2 with e2 e3; subst e1 e2 e3
 obtain ⟨o1, o2, o3⟩ := hob
 have hz0 : 0 < szT C.P e := by
  obtain ⟨i, zv, z1, z2, z3, z4, z5, z6, z7⟩ := cG hz
  omega
 have hm0 : ys.length ≠ 0 := λ h => o2 (length_eq_zero_iff.1 h)
 obtain ⟨xa, c, xval, rfl, hxr, hxl, hxv⟩ := kz (C := C) (e := e) (x := .slice sx fx ys) (ob := True) (ys := ys) (dp := true) R (by simp only [if_pos c1]) trivial hx
 obtain ⟨a, cap, b', rfl, hb', k1, k2, k3, k4, k5⟩ := dU hs
 rw [hb] at hb'; injection hb' with hb'; subst hb'
 have hq := k5 o1 (by rw [c4, c5])
 cases hβ : β[l]? with
 | none => rw [hβ] at hq; exact hq.elim
 | some bi =>
  rw [hβ] at hq
  have hB := R.blk l bi b hβ hb
  cases bi with
  | nil => have h2 : b.rows = [] := hB.1; rw [h2] at o1; simp at o1; omega
  | lies bk c0 =>
   obtain ⟨q1, q2, q3⟩ := hq
   obtain ⟨cur0, h1, h2, h3, h4, h5, h6, h7⟩ := hB
   have ha := q3 (by omega)
   rw [zero_mul] at ha
   subst ha
   obtain rfl : cap = c0 := by omega
   obtain ⟨i0, zv, z1, z2, z3, z4, z5, z6, z7⟩ := cG hz
   have hisz : i0.size = szT C.P e := by rw [z3, z5]
   obtain ⟨xb, xoff, rfl, hxc⟩ := hxr hm0
   have hroom : len + ys.length <= cap := by omega
   have hfit : len * szT C.P e + (bR xval ys.length (szT C.P e)).length <= cur0.size := by
    rw [aH, h2, c4, <- add_mul]
    exact mul_le_mul_right _ hroom
   have hrun := run_append_room (P := C.P) w t ty e i0 (bC he) z1 bk len cap cur0 (by rw [<- c3]; exact h1) ⟨xb, xoff, none⟩ ys.length c (bR xval ys.length (szT C.P e)) (by rw [aH, hisz]) (λ j u hj => (co hxc hj).1)
    (λ u hu => by obtain ⟨j, hj, rfl⟩ := getElem_of_mem hu; exact (co hxc (getElem?_eq_getElem hj)).2) hroom (by rw [hisz]; exact hfit)
   rw [hisz] at hrun
   obtain ⟨cur', hcur', hget, hsize⟩ : ∃ cur', cur' = (cur0.toList.take (len * szT C.P e) ++ bR xval ys.length (szT C.P e) ++ cur0.toList.drop (len * szT C.P e + (bR xval ys.length (szT C.P e)).length)).toArray /\
     (∀ k : Nat, cur'[k]? = if len * szT C.P e <= k /\ k < len * szT C.P e + ys.length * szT C.P e then (bR xval ys.length (szT C.P e))[k - len * szT C.P e]? else cur0[k]?) /\ cur'.size = cur0.size :=
    ⟨_, rfl, λ k => by rw [oA _ _ _ _ hfit, aH], lW _ _ _ hfit⟩
   rw [<- hcur'] at hrun
   clear hcur'
   have hlen : (b.rows.take len ++ ys ++ b.rows.drop (len + ys.length)).length = b.rows.length := by
    rw [length_append, length_append, length_take, length_drop]; omega
   have hM : MutB β H bk := ⟨l, cap, b, hβ, hb, c2⟩
   have S := ed (w := w) R hb hβ (.lies bk cap) { b with rows := b.rows.take len ++ ys ++ b.rows.drop (len + ys.length) } rfl rfl (by rw [hlen]; exact le_refl _) (λ _ => rfl) (λ h => h) (λ bk c e => .inr ⟨c, e⟩) (fg w hM cur')
   refine ⟨_, _, β.set l (.lies bk cap), hrun, eG R hb hβ _ _ S (λ l' bk' c hl hb' => setRow_other w bk bk' _ (λ e => hl (R.inj l' l bk' c cap hb' (e ▸ hβ)))) ?_ (λ bk' c e => ?_) (λ bk' c l' c' e hl hb' => ?_), S, ?_⟩
   ·refine m8 S (setRow_heap w bk cur0 _ b.e (0, 0) h1) (by rw [hsize, h2]) (by rw [hlen]; exact h3) h4 (by rw [c4]; exact hz0) (λ r hr' => ?_) (λ i j r av hi hj => ?_)
    ·rcases mem_append.1 hr' with h | h
     ·rcases mem_append.1 h with h | h
      ·exact h6 r (mem_of_mem_take h)
      ·rw [hxl r h, c4]
     ·exact h6 r (mem_of_mem_drop h)
    ·simp only [c4, hget]
     have hjl := (List.getElem?_eq_some_iff.1 hj).1
     rcases zi (by omega) hi with ⟨h1', h2'⟩ | ⟨h1', h2', h3'⟩ | ⟨h1', h2'⟩
     ·have hjl' : j < szT C.P e := by rw [<- c4, <- h6 r (mem_of_getElem? h2')]; exact hjl
      have hlt : i * szT C.P e + j < len * szT C.P e := by
       have := mul_le_mul_right (szT C.P e) (show i + 1 <= len by omega)
       rw [add_mul] at this
       omega
      rw [if_neg (by omega)]
      obtain ⟨v, q1, q2, q3, q4⟩ := h7 i j r av h2' hj
      rw [c4] at q1
      exact ⟨v, q1, q2, q3, q4⟩
     ·have hjl' : j < szT C.P e := by rw [<- hxl r (mem_of_getElem? h3')]; exact hjl
      have hge : len * szT C.P e <= i * szT C.P e := mul_le_mul_right _ (by omega)
      have hsub : i * szT C.P e + j - len * szT C.P e = (i - len) * szT C.P e + j := by rw [sub_mul]; omega
      have hlt : (i - len) * szT C.P e + j < ys.length * szT C.P e := by
       have := mul_le_mul_right (szT C.P e) (show i - len + 1 <= ys.length by omega)
       rw [add_mul] at this
       omega
      rw [if_pos (by omega), hsub, e7 _ _ _ _ _ (by omega) hjl']
      refine ⟨_, rfl, (hxc _ j (by omega) hjl').2, ?_⟩
      have := hxv (i - len) j r av h3' hj
      exact ⟨this.1, λ hd => this.2 rfl⟩
     ·have hjl' : j < szT C.P e := by rw [<- c4, <- h6 r (mem_of_getElem? h2')]; exact hjl
      have hge : (len + ys.length) * szT C.P e <= i * szT C.P e := mul_le_mul_right _ h1'
      rw [add_mul] at hge
      rw [if_neg (by omega)]
      obtain ⟨v, q1, q2, q3, q4⟩ := h7 i j r av h2' hj
      rw [c4] at q1
      exact ⟨v, q1, q2, q3, q4⟩
   ·injection e with e1 e2
    subst e1
    exact ⟨lt_of_lt_of_le (R.lt l bk cap hβ).1 S.keeps.size, (R.lt l bk cap hβ).2⟩
   ·injection e with e1 e2
    subst e1
    exact hl (R.inj l' l bk c' cap hb' hβ)
   ·have hb2 : (H.set l { b with rows := b.rows.take len ++ ys ++ b.rows.drop (len + ys.length) })[l]? = some { b with rows := b.rows.take len ++ ys ++ b.rows.drop (len + ys.length) } := getElem?_set_self (List.getElem?_eq_some_iff.1 hb).1
    have hR : Rep (w.setRow bk cur') (Mu X (β.set l (.lies bk cap)) (H.set l { b with rows := b.rows.take len ++ ys ++ b.rows.drop (len + ys.length) })) (β.set l (.lies bk cap)) (H.set l { b with rows := b.rows.take len ++ ys ++ b.rows.drop (len + ys.length) }) (.slice (some ⟨bk, 0, none⟩) (len + ys.length) cap) (.osl l n sz 0 (len + ys.length)) := by
     refine .osl l n sz 0 (len + ys.length) _ cap { b with rows := b.rows.take len ++ ys ++ b.rows.drop (len + ys.length) } hb2 (by rw [hlen]; exact k1) (by omega) (.inr ⟨_, rfl⟩) (by omega) λ _ _ => ?_
     rw [getElem?_set_self (List.getElem?_eq_some_iff.1 hβ).1]
     exact ⟨by omega, by omega, λ _ => by rw [zero_mul]⟩
    by_cases hfull : len + ys.length = n
    ·rw [if_pos hfull, hfull]
     rw [hfull] at hR hb2
     exact Fb hR hb2 (by show (b.rows.take len ++ ys ++ b.rows.drop n).length = n; rw [<- hfull, hlen, o1, hfull]) (by show b.sz = sz; rw [c4, c5]) (by omega)
    ·rw [if_neg hfull]; exact hR
theorem rU (R : HRel w X β H) {t : TypeId} {len : Nat} {parts : List (Nat × AV)} {ob : Prop} {r : AV} {H' : List Blk} (h : j4 C H t len parts = some (ob, r, H')) {vparts : Array (Nat × Value)} (hl : vparts.size = parts.length)
  (hv : ∀ (j k : Nat) (u : AV), parts[j]? = some (k, u) -> ∃ v, vparts[j]? = some (k, v) /\ Rep w (Mu X β H) β H v u) :
  ∃ u w' β', (Instr.buildSlice t len vparts).run C.P w = .ok u w' /\ HRel w' X β' H' /\ StepR w β H w' β' H' /\ Rep w' (Mu X β' H') β' H' u r := by
 unfold j4 at h
 split at h
 case h_2 => cases h
 rename_i e l n sz i f he
 split at h
 case isFalse => cases h
 rename_i hc
 obtain ⟨c1, c2, c3⟩ := hc
 injection h with h; injection h with e1 e2; injection e2 with e2 e3; subst e1 e2 e3 c3
 obtain ⟨z, hz⟩ : ∃ z, zT C.P e = some z := by cases hz' : zT C.P e <;> simp_all
 obtain ⟨i0, zv, z1, z2, z3, z4, z5, z6, z7⟩ := cG hz
 have hzr : (zeroValue e).run C.P w = .ok zv w := by simp [zeroValue, typeInfo, z1, z2]
 have hsize := aS (P := C.P) (t := e) (by omega) w
 obtain ⟨v, hv1, hv2⟩ := hv 0 0 _ rfl
 obtain ⟨a, b, rfl, hb, hn, hx⟩ := gB hv2
 have hvp : vparts.toList = [(0, .pointer (some a))] := by
  have h1 : vparts.toList.length = 1 := by rw [Array.length_toList, hl]; rfl
  have h2 : vparts.toList[0]? = some (0, .pointer (some a)) := by rw [Array.getElem?_toList]; exact hv1
  match hvl : vparts.toList, h1, h2 with
  | [x], _, h2 => simp at h2; rw [h2]
 have g1 : Instr.fill (λ k => some (k * szT C.P e, szT C.P e)) ((Array.range (1 * szT C.P e)).map λ x => zv.cells[x % zv.cells.size]!) vparts.toList = some #[.pointer (some a)] := by
  rw [hvp, c1]
  obtain ⟨x0, hx0⟩ : ∃ x0, (Array.range (1 * 1)).map (λ x => zv.cells[x % zv.cells.size]!) = #[x0] := ⟨zv.cells[0 % zv.cells.size]!, by
   apply Array.ext
   ·simp
   ·intro i h1 h2
    have : i = 0 := by simp at h1; omega
    subst this
    simp⟩
  rw [hx0]
  unfold Instr.fill
  simp [Instr.fill, Value.cells]
 have hrun : (Instr.buildSlice t 1 vparts).run C.P w = .ok (.slice (some ⟨w.heap.size, 0, none⟩) 1 1) (w.alloc (.cells #[.pointer (some a)] e)) := by
  have hno : ¬ 1 * szT C.P e > 2 ^ 24 := by rw [c1]; decide
  have h0 : ¬ 1 * szT C.P e = 0 := by rw [c1]; decide
  simp only [Instr.buildSlice, Sem.run_bind, run_underlying (bC he), Result.andThen_ok, hsize, hno, if_false, h0, hzr, Sem.run_pure, g1, newRow, run_newObj]
  rfl
 have hk := Keeps.alloc (λ _ => False) w (.cells #[.pointer (some a)] e)
 have S := dJ R hk (.lies w.heap.size 1) ⟨e, 1, [[.ptr l n sz i f]], true, false⟩ (λ bk c e => by injection e with e _; omega)
 refine ⟨_, _, β ++ [.lies w.heap.size 1], hrun, eV R hk _ _ (λ bk c e => by injection e with e _; omega) (λ bk c e => by injection e with e _; subst e; simp) ?_, S, ?_⟩
 ·refine m8 S (heap_alloc_new w _) rfl (le_refl _) (by unfold maxLen; omega) Nat.one_pos (λ r hr => by rw [List.mem_singleton.1 hr]; rfl) (λ i' j' r av hi hj => ?_)
  match i', hi with
  | 0, hi =>
   simp at hi
   subst hi
   match j', hj with
   | 0, hj =>
    simp at hj
    subst hj
    exact ⟨.pointer (some a), rfl, rfl, hv2, λ h => by cases h⟩
   | j' + 1, hj => simp at hj
  | i' + 1, hi => simp at hi
 ·refine .own H.length 1 _ 1 _ (aM H _) (le_refl _) (.inr ⟨_, rfl⟩) (le_refl _) λ _ => ?_
  rw [<- R.len, aM]
  exact ⟨rfl, rfl⟩
theorem yV {P : Program} (w : World) (dT sT ty elem : TypeId) (d : Addr) (dLen dCap : Nat) (a : Addr) (sLen sCap : Nat) (cs : List Value) (hu : P.underlying dT = some (.slice elem)) (hs : 0 < szT P elem)
  (hn : cs.length = Nat.min sLen dLen * szT P elem) (hsrc : ∀ j v, cs[j]? = some v -> w.cell? (a.add j) = some v) {w' : World} (hst : (storeCells d cs).run P w = .ok () w') :
  (Builtin.copy_ #[dT, sT] ty #[.slice (some d) dLen dCap, .slice (some a) sLen sCap]).run P w = .ok (goInt (Nat.min sLen dLen)) w' := by
 have hl := run_loadCells_list (P := P) w a cs hsrc
 rw [hn] at hl
 simp [Builtin.copy_, run_underlying hu, Builtin.lenOf, Builtin.firstCells, aS hs, hl, hst]
theorem uW {P : Program} (w : World) (dT sT ty elem : TypeId) (d a : Option Addr) (dLen dCap sLen sCap : Nat) (hu : P.underlying dT = some (.slice elem)) (hs : 0 < szT P elem) (hn : Nat.min sLen dLen = 0) :
  (Builtin.copy_ #[dT, sT] ty #[.slice d dLen dCap, .slice a sLen sCap]).run P w = .ok (.int .i64 0) w := by
 have hl : ∀ a : Addr, (loadCells a 0).run P w = .ok #[] w := λ a => by have := run_loadCells_list (P := P) w a [] (λ j v h => by simp at h); simpa using this
 cases d <;> cases a <;> simp [Builtin.copy_, run_underlying hu, Builtin.lenOf, Builtin.firstCells, aS hs, hn, hl, storeCells, goInt]
theorem Mp {e : TypeId} {s : AV} {l n off len : Nat} (h : L5 C e s = some (l, n, off, len)) {vs : Value} (hs : Rep w (Mu X β H) β H vs s) {b : Blk} (hb : H[l]? = some b) (hn : b.rows.length = n) (hsz : b.sz = szT C.P e) :
  ∃ a cap, vs = .slice a len cap /\ off + len <= n /\ (0 < len -> ∃ bk c, β[l]? = some (BI.lies bk c) /\ a = some ⟨bk, off * b.sz, none⟩) := by
 unfold L5 at h
 split at h
 ·rename_i l' n'
  injection h with h; injection h with e1 h; injection h with e2 h; injection h with e3 e4; subst e1 e2 e3 e4
  obtain ⟨a, cap, b', rfl, hb', k1, k2, k3⟩ := gC hs
  rw [hb] at hb'; injection hb' with hb'; subst hb'
  refine ⟨a, cap, rfl, by omega, λ h0 => ?_⟩
  have hx := k3 hn
  cases hβ : β[l']? with
  | none => rw [hβ] at hx; exact hx.elim
  | some bi =>
   rw [hβ] at hx
   cases bi with
   | nil => have := hx.1; omega
   | lies bk c => exact ⟨bk, c, rfl, by rw [hx.1, zero_mul]⟩
 ·rename_i l' n' sz' off' len'
  split at h
  ·rename_i hc
   injection h with h; injection h with e1 h; injection h with e2 h; injection h with e3 e4; subst e1 e2 e3 e4
   obtain ⟨a, cap, b', rfl, hb', k1, k2, k3, k4, k5⟩ := dU hs
   rw [hb] at hb'; injection hb' with hb'; subst hb'
   refine ⟨a, cap, rfl, k2, λ h0 => ?_⟩
   have hx := k5 hn (by rw [hsz, hc])
   cases hβ : β[l']? with
   | none => rw [hβ] at hx; exact hx.elim
   | some bi =>
    rw [hβ] at hx
    cases bi with
    | nil => have := hx.2.1; omega
    | lies bk c =>
     obtain ⟨q1, q2, q3⟩ := hx
     exact ⟨bk, c, rfl, by rw [q3 (by omega), hsz, hc]⟩
  ·cases h
 ·cases h
theorem BF (R : HRel w X β H) {t : TypeId} {s x : AV} {ob : Prop} {r : AV} {H' : List Blk} (h : y6 C H t s x = some (ob, r, H')) (hob : ob) {vs vx : Value} (hs : Rep w (Mu X β H) β H vs s) (hx : Rep w (Mu X β H) β H vx x) (ty : TypeId) :
  ∃ u w' β', (Builtin.copy_ #[t, t] ty #[vs, vx]).run C.P w = .ok u w' /\ HRel w' X β' H' /\ StepR w β H w' β' H' /\ Rep w' (Mu X β' H') β' H' u r := by
 unfold y6 at h
 split at h
 case h_2 => cases h
 rename_i e he
 split at h
 ·cases h
 rename_i hz0
 have hz0 : 0 < szT C.P e := by omega
 split at h
 case h_2 => cases h
 rename_i ob1 ys dp l n off len hsr hds
 split at h
 case h_2 => cases h
 rename_i b hb
 split at h
 case isFalse => cases h
 rename_i hc
 obtain ⟨hmu, hsz⟩ := hc
 injection h with h; injection h with e1 e2; injection e2 with e2 e3; subst e1 e2 e3
 obtain ⟨o1, o2⟩ := hob
 obtain ⟨xa, c, xval, rfl, hxr, hxl, hxv⟩ := kz (C := C) (e := e) R hsr o1 hx
 obtain ⟨a, cap, rfl, hle, hat⟩ := Mp (C := C) hds hs hb o2 hsz
 have hzr : ∀ (w' : World) (β' : List BI) (H' : List Blk), Rep w' (Mu X β' H') β' H' (goInt (Nat.min ys.length len)) (.int .i64 (min ys.length len : Nat)) := λ _ _ _ => .deep (.int _ _)
 have hlt : l < H.length := (List.getElem?_eq_some_iff.1 hb).1
 rcases eq_zero_or_pos (min ys.length len) with h0 | h0
 ·have hrun := uW (P := C.P) w t t ty e a xa len cap ys.length c (bC he) hz0 h0
  have htk : ys.take len = [] := by
   rcases eq_zero_or_pos len with h | h
   ·rw [h]; rfl
   ·have : ys = [] := length_eq_zero_iff.1 (by omega)
    rw [this, List.take_nil]
  have hbb : ({ b with rows := b.rows.take off ++ ys.take len ++ b.rows.drop (off + min ys.length len), deep := b.deep && dp } : Blk) = { b with deep := b.deep && dp } := by
   rw [htk, h0]
   simp
  rw [hbb]
  have hβ : ∃ bi, β[l]? = some bi := by
   have : l < β.length := by rw [R.len]; exact hlt
   exact ⟨_, getElem?_eq_getElem this⟩
  obtain ⟨bi, hβ⟩ := hβ
  have hB := R.blk l bi b hβ hb
  have S := ed (w := w) (w' := w) R hb hβ bi { b with deep := b.deep && dp } rfl rfl (le_refl _) (λ _ => rfl) (λ h => h) (λ bk c e => .inr ⟨c, e⟩) (Keeps.refl _ _)
  refine ⟨_, w, β.set l bi, hrun, eG R hb hβ _ _ S (λ _ _ _ _ _ => rfl) ?_ (λ bk c e => by subst e; exact R.lt l bk c hβ) (λ bk c l' c' e hl hb' => by subst e; exact hl (R.inj l' l bk c' c hb' hβ)), S, by rw [h0]; exact .deep (.int _ _)⟩
  cases bi with
  | nil => exact hB
  | lies bk c =>
   obtain ⟨cur, h1, h2, h3, h4, h5, h6, h7⟩ := hB
   refine ⟨cur, h1, h2, h3, h4, h5, h6, λ i j r av hr hj => ?_⟩
   obtain ⟨v, q1, q2, q3, q4⟩ := h7 i j r av hr hj
   refine ⟨v, q1, q2, q3.keep S, λ hd => ?_⟩
   simp only [Bool.and_eq_true] at hd
   exact (q4 hd.1).keep (λ b hb hn => S.keeps.block b hb (λ hm => hn (.inr hm))) S.keeps.size (λ b hb => S.mu b hb)
 ·obtain ⟨bk, c0, hβ, rfl⟩ := hat (by omega)
  obtain ⟨xb, xoff, rfl, hxc⟩ := hxr (by omega)
  have hkl : (ys.take len).length = min ys.length len := by rw [length_take]; omega
  have hxc' : ∀ i j, i < min ys.length len -> j < szT C.P e -> w.cell? ⟨xb, xoff + i * szT C.P e + j, none⟩ = some (xval i j) /\ (xval i j).oneCell' = true := λ i j hi hj => hxc i j (by omega) hj
  obtain ⟨w', β', g1, g2, g3⟩ := ow (C := C) R hb hβ hmu off (ys.take len) (bR xval (min ys.length len) (szT C.P e)) dp (by rw [hkl]; omega) (by rw [aH, hkl, hsz]) (λ v hv => by
   obtain ⟨k, hk, rfl⟩ := getElem_of_mem hv
   exact (co hxc' (getElem?_eq_getElem hk)).2) (λ r hr => by rw [hsz]; exact hxl r (mem_of_mem_take hr)) (λ i j r av hi hj => by
   have hil := (List.getElem?_eq_some_iff.1 hi).1
   rw [hkl] at hil
   rw [getElem?_take] at hi
   split at hi
   ·have hjl := (List.getElem?_eq_some_iff.1 hj).1
    rw [hxl r (mem_of_getElem? hi)] at hjl
    rw [hsz, e7 _ _ _ _ _ hil hjl]
    obtain ⟨q1, q2⟩ := hxv i j r av hi hj
    exact ⟨_, rfl, q1, q2⟩
   ·cases hi)
  rw [hkl] at g2 g3
  refine ⟨_, w', β', yV (P := C.P) w t t ty e ⟨bk, off * b.sz, none⟩ len cap ⟨xb, xoff, none⟩ ys.length c (bR xval (min ys.length len) (szT C.P e)) (bC he) hz0 (by rw [aH]) (λ j u hj => (co hxc' hj).1) g1, g2, g3, hzr _ _ _⟩
end
section
variable {C : Ctx} {w w' : World} {X Y : Nat -> Prop} {β : List BI} {H : List Blk}
theorem jE {v : Value} {av : AV} (hd : av.deepArg = true) (h : Rep w X β H v av) : RepD w X v av := by
 cases av with
 | agg cells =>
  obtain ⟨cs, val, rfl, hl, hm, hv⟩ := ir h
  refine .agg cs cells val hl hm λ j u hu => ff (all_eq_true.1 hd u (mem_of_getElem? hu)) (hv j u hu)
 | fn f cells =>
  obtain ⟨cs, val, rfl, hl, hm, hv⟩ := tI h
  refine .fn f cs cells val hl hm λ j u hu => ff (all_eq_true.1 hd u (mem_of_getElem? hu)) (hv j u hu)
 | own => cases hd
 | osl => cases hd
 | ptr => cases hd
 | tup => cases hd
 | _ => exact ff rfl h
theorem zb {v : AV} (h : v.isDeep = true) (d : Nat) : bL H d v = v := by
 cases d with
 | zero => simp [bL, h]
 | succ d => cases v <;> first | rfl | cases h
theorem j0 (d : Nat) : ∀ (l : List AV), l.all AV.isDeep = true -> l.map (bL H d) = l
 | [], _ => rfl
 | v :: r, h => by
  simp only [List.all_cons, Bool.and_eq_true] at h
  simp [zb h.1, j0 d r h.2]
theorem lc {v : AV} (h : v.deepArg = true) (d : Nat) : bL H (d + 1) v = v := by
 cases v with
 | agg cs => simp only [bL, j0 d cs h]
 | fn f cs => simp only [bL, j0 d cs h]
 | own => cases h
 | osl => cases h
 | ptr => cases h
 | tup => cases h
 | _ => rfl
theorem iA {v : Value} {r : AV} (hf : r.flat1 = true) (h : RepD w X v r) : RepD w Y v r := by
 cases r with
 | bool b => cases h; exact .bool _
 | int k n => cases h; exact .int _ _
 | str s => cases h; exact .str _
 | nilptr => cases h; exact .nilptr
 | _ => cases hf
theorem rG {v : Value} {cs : List AV} (hf : cs.all AV.flat1 = true) (h : RepD w X v (.agg cs)) : RepD w Y v (.agg cs) := by
 cases h with
 | agg asq _ val hl hm hv => exact .agg asq cs val hl hm λ j u hu => iA (all_eq_true.1 hf u (mem_of_getElem? hu)) (hv j u hu)
theorem tr {v : Value} {r : AV} (hf : r.isFlat = true) (h : RepD w X v r) : RepD w Y v r := by
 cases r with
 | agg cs => exact rG hf h
 | tup cs =>
  cases h with
  | tup asq _ val hl hm hv =>
   refine .tup asq cs val hl hm λ j u hu => ?_
   have h1 := all_eq_true.1 hf u (mem_of_getElem? hu)
   have h2 := hv j u hu
   cases u with
   | agg ds => exact rG h1 h2
   | _ => exact iA h1 h2
 | bool b => exact iA rfl h
 | int k n => exact iA rfl h
 | str s => exact iA rfl h
 | nilptr => exact iA rfl h
 | _ => cases hf
theorem oT {a : Act} {ρ : List (Nat × AV)} (T : ju w X β H a ρ) (G : nQ C w X) {c : Call} {f : FuncId} {avs : List AV} (h : target C ρ c = some (f, avs)) :
  ∃ args : Array Value, (∀ (ty : TypeId), (do let d <- resolve a.eval c ty; invoke d.target d.args : Sem Next).run C.P w = (callFunc f args).run C.P w) /\ args.size = avs.length /\ ∀ (j : Nat) (u : AV), avs[j]? = some u -> ∃ v, args[j]? = some v /\ Rep w X β H v u := by
 unfold target at h
 split at h
 ·rename_i op hop
  have hx := bq T G 0 op
  split at h
  ·rename_i g cap hg
   injection h with h; injection h with e1 e2; subst e1 e2
   rw [hg] at hx
   obtain ⟨cs, val, h1, hl, hm, hv⟩ := tI hx
   obtain ⟨callee, cargs, ctypes⟩ := c
   simp only at hop
   subst hop
   refine ⟨cargs.map a.eval ++ cs, λ ty => ?_, by simp [cm, hl], λ j u hu => ?_⟩
   ·simp [resolve, h1, Deferred.ofValue, invoke]
   ·rcases lt_or_ge j cargs.size with hj | hj
    ·rw [getElem?_append_left (by rw [cm]; simpa using hj)] at hu
     obtain ⟨x, k1, k2⟩ := fA T G _ _ j u hu
     refine ⟨a.eval x, ?_, k2⟩
     rw [Array.getElem?_append_left (by simpa using hj)]
     simp only [Array.getElem?_toList] at k1
     simp [k1]
    ·rw [getElem?_append_right (by rw [cm]; simpa using hj), cm] at hu
     simp only [Array.length_toList] at hu
     refine ⟨val (j - cargs.size), ?_, hv _ u hu⟩
     rw [Array.getElem?_append_right (by simpa using hj)]
     simp only [Array.size_map]
     exact hm _ (List.getElem?_eq_some_iff.1 hu).1
  ·cases h
 ·cases h
theorem iu {P : Program} {f : FuncId} {fn : Func} (hf : P.funcs[f]? = some fn) (hn : fn.name ≠ "runtime.NumGoroutine") (hb : fn.body.isSome = true) (args : Array Value) (w : World) : (callFunc f args).run P w = .ok (.enter f args) w := by
 have h3 : fn.body ≠ none := by cases h : fn.body <;> simp_all
 simp [callFunc, run_program, hf, hn, h3]
def Oe (X : Nat -> Prop) (w : World) (β : List BI) (H : List Blk) (r : AV) (H' : List Blk) (o : Oper) (a : Act) (K : Act -> World -> Prop) : Prop :=
 ∀ (u : Value) (w' : World) (β' : List BI), HRel w' X β' H' -> StepR w β H w' β' H' -> Rep w' (Mu X β' H') β' H' u r -> K (a.put o.dst u) w'
theorem de {o : Oper} {a : Act} {K : Act -> World -> Prop} {Q : Exit -> Act -> World -> Prop} {u : Value} (h : (execOp a.eval o).run C.P w = .ok (.value u) w') (hK : K (a.put o.dst u) w') : o.wp C.P a w K Q := by
 unfold Oper.wp
 rw [h]
 exact hK
theorem oV {o : Oper} {a : Act} {K : Act -> World -> Prop} {Q : Exit -> Act -> World -> Prop} {f : FuncId} {args : Array Value} (h : (execOp a.eval o).run C.P w = .ok (.enter f args) w)
  (hK : Calls C.P f args w λ e w' => ∃ v, e = .returned v /\ K (a.put o.dst v) w') : o.wp C.P a w K Q := by
 unfold Oper.wp
 rw [h]
 exact hK.mono λ e w' ⟨v, he, hk⟩ => by subst he; exact hk
theorem A2 (R : HRel w X β H) {f : FuncId} {p : List AV -> Option (Prop × AV)} (hx : zd C.P f p) {args : Array Value} {avs : List AV} (hsz : args.size = avs.length) (harg : ∀ (j : Nat) (u : AV), avs[j]? = some u -> ∃ v, args[j]? = some v /\ Rep w (Mu X β H) β H v u)
  {ob : Prop} {r : AV} (hp : p (avs.map (bL H 6)) = some (ob, r)) (hob : ob) (hfd : (r.isFlat || avs.all AV.deepArg) = true) : ∃ v, (callFunc f args).run C.P w = .ok (.value v) w /\ Rep w (Mu X β H) β H v r := by
 simp only [Bool.or_eq_true] at hfd
 by_cases hda : avs.all AV.deepArg = true
 ·obtain ⟨v, h1, h2⟩ := hx w (Mu X β H) args (avs.map (bL H 6)) ob r (by simp [hsz]) (λ j u hu => by
   rw [getElem?_map] at hu
   simp only [map_eq_some_iff] at hu
   obtain ⟨av, hav, rfl⟩ := hu
   have hdd := all_eq_true.1 hda av (mem_of_getElem? hav)
   obtain ⟨v, k1, k2⟩ := harg j av hav
   rw [lc hdd]
   exact ⟨v, k1, jE hdd k2⟩) hp hob
  exact ⟨v, h1, .deep h2⟩
 ·have hfl := hfd.resolve_right hda
  obtain ⟨v, h1, h2⟩ := hx w X args (avs.map (bL H 6)) ob r (by simp [hsz]) (λ j u hu => by
   rw [getElem?_map] at hu
   simp only [map_eq_some_iff] at hu
   obtain ⟨av, hav, rfl⟩ := hu
   obtain ⟨v, k1, k2⟩ := harg j av hav
   exact ⟨v, k1, (bX R (λ _ => True) 6 k2 (λ _ _ => trivial)).mono λ b _ hb => .inl hb⟩) hp hob
  exact ⟨v, h1, .deep (tr hfl h2)⟩
theorem cV (hS : au C) {a : Act} {st : ASt} (R : HRel w X β st.H) (T : ju w (Mu X β st.H) β st.H a st.ρ) (G : nQ C w (Mu X β st.H)) {o : Oper} {ob : Prop} {r : AV} {H' : List Blk} (h : aI C st o = some (ob, r, H')) (hob : ob)
  {K : Act -> World -> Prop} {Q : Exit -> Act -> World -> Prop} (hK : Oe X w β st.H r H' o a K) : o.wp C.P a w K Q := by
 have quiet : ∀ {u : Value} {w' : World}, (execOp a.eval o).run C.P w = .ok (.value u) w' -> Keeps (λ _ => False) w w' -> H' = st.H -> Rep w' (Mu X β st.H) β st.H u r -> o.wp C.P a w K Q := by
  intro u w' h1 h2 h3 h4
  subst h3
  exact de h1 (hK u w' β (R.quiet h2) (StepR.quiet h2 R.len) h4)
 have E := λ t x => bq (C := C) T G t x
 unfold aI at h
 split at h
 ·rename_i hkd
  clear hkd
  split at h
  ·rename_i ob' v hp
   injection h with h; injection h with e1 e2; injection e2 with e2 e3; subst e1 e2
   obtain ⟨u, w', h1, h2, h3⟩ := Bp T G R.mu_lt hp hob
   exact quiet h1 h2 e3.symm h3
  ·cases h
 ·rename_i hkd
  clear hkd
  split at h
  ·rename_i ob' v hr
   injection h with h; injection h with e1 e2; injection e2 with e2 e3; subst e1 e2
   obtain ⟨dst, op, type, pos, after, guard⟩ := o
   unfold ua at hr
   simp only at hr
   split at hr
   ·rename_i t p
    obtain ⟨u, h1, h2⟩ := ry R hr hob (E _ p)
    exact quiet (w' := w) (by simp only [execOp, Sem.run_bind, h1, Result.andThen_ok, Sem.run_pure]) (Keeps.refl _ _) e3.symm h2
   ·rename_i t len parts
    split at hr
    ·rename_i hd
     cases he : elT C.P t with
     | none => simp [bO, he] at hr
     | some e =>
      obtain ⟨u, w', h1, h2, h3⟩ := jA (w := w) (Y := Mu X β st.H) hr (vparts := parts.map λ (i, x) => (i, a.eval x)) (by simp [aW, he]) (λ j k u hj => by
       have hmem := mem_of_getElem? hj
       have hd' := all_eq_true.1 hd _ hmem
       simp only [aW, he, getElem?_map, map_eq_some_iff] at hj
       obtain ⟨⟨k', x⟩, hj1, hj2⟩ := hj
       injection hj2 with hj2 hj3
       simp only at hj2 hj3
       subst hj2 hj3
       simp only [Array.getElem?_toList] at hj1
       exact ⟨a.eval x, by simp [hj1], jE hd' (E _ x)⟩) R.mu_lt
      exact quiet (by simp only [execOp, Sem.run_bind, h1, Result.andThen_ok, Sem.run_pure]) h2 e3.symm (.deep h3)
    ·cases hr
   ·rename_i src dst' x
    obtain ⟨u, h1, h2⟩ := rY R hr hob (E _ x)
    exact quiet (w' := w) (by simp only [execOp, Sem.run_bind, h1, Result.andThen_ok, Sem.run_pure]) (Keeps.refl _ _) e3.symm h2
   ·rename_i c
    split at hr
    ·rename_i f avs htg
     split at hr
     ·rename_i p hp
      have hok := hS f
      rw [hp] at hok
      obtain ⟨args, hrun, hsz, harg⟩ := oT T G htg
      unfold eX at hr
      split at hr
      ·rename_i ob1 r1 hpr
       split at hr
       ·rename_i hfd
        injection hr with hr; injection hr with e1 e2; subst e1 e2
        rcases hok with hok | hx
        case' inr =>
         obtain ⟨v, v1, v2⟩ := A2 R hx hsz harg hpr hob hfd
         exact quiet (w' := w) (by simp only [execOp]; rw [hrun type, v1]) (Keeps.refl _ _) e3.symm v2
        obtain ⟨hok, fn, hf1, hf2, hf3⟩ := hok
        have hrun' : (execOp a.eval { dst, op := .call c, type, pos, after, guard : Oper }).run C.P w = .ok (.enter f args) w := by
         simp only [execOp]
         rw [hrun type, iu hf1 hf2 hf3]
        refine oV hrun' ?_
        simp only [Bool.or_eq_true] at hfd
        by_cases hda : avs.all AV.deepArg = true
        ·have := hok w (Mu X β st.H) args (avs.map (bL st.H 6)) ob1 r1 R.mu_lt G (by simp [hsz]) (λ j u hu => by
          rw [getElem?_map] at hu
          simp only [map_eq_some_iff] at hu
          obtain ⟨av, hav, rfl⟩ := hu
          have hdd := all_eq_true.1 hda av (mem_of_getElem? hav)
          obtain ⟨v, k1, k2⟩ := harg j av hav
          rw [lc hdd]
          exact ⟨v, k1, jE hdd k2⟩) hpr hob
         refine this.mono λ e w' ⟨v, he, hk, hv⟩ => ⟨v, he, ?_⟩
         subst e3
         exact hK v w' β (R.quiet hk) (StepR.quiet hk R.len) (.deep hv)
        ·have hfl := hfd.resolve_right hda
         have := hok w X args (avs.map (bL st.H 6)) ob1 r1 R.base (λ g => (G g).mono λ b _ hb => .inl hb) (by simp [hsz]) (λ j u hu => by
          rw [getElem?_map] at hu
          simp only [map_eq_some_iff] at hu
          obtain ⟨av, hav, rfl⟩ := hu
          obtain ⟨v, k1, k2⟩ := harg j av hav
          exact ⟨v, k1, (bX R (λ _ => True) 6 k2 (λ _ _ => trivial)).mono λ b _ hb => .inl hb⟩) hpr hob
         refine this.mono λ e w' ⟨v, he, hk, hv⟩ => ⟨v, he, ?_⟩
         subst e3
         exact hK v w' β (R.quiet hk) (StepR.quiet hk R.len) (.deep (tr hfl hv))
       ·cases hr
      ·cases hr
     ·cases hr
    ·cases hr
   ·cases hr
  ·cases h
 ·rename_i hkd
  clear hkd
  obtain ⟨dst, op, type, pos, after, guard⟩ := o
  unfold yQ at h
  simp only at h
  split at h
  ·rename_i t
   cases hz : zT C.P t with
   | none => rw [hz] at h; simp [w8] at h
   | some z =>
    rw [hz] at h
    obtain ⟨i, zv, z1, z2, z3, z4, z5, z6, z7⟩ := cG hz
    obtain ⟨β', h1, h2, h3⟩ := uq R h (yz z6 z7)
    refine de (u := .pointer (some ⟨w.heap.size, 0, none⟩)) (w' := w.alloc (.cells zv.cells t)) ?_ (hK _ _ β' h1 h2 h3)
    simp [execOp, Instr.alloc, zeroValue, typeInfo, z1, z2, newVar, newRow]
  ·rename_i t x
   cases hc : ic C t (aev C st.ρ t x) with
   | none => rw [hc] at h; simp [w8] at h
   | some cs =>
    rw [hc] at h
    obtain ⟨c1, _⟩ := gz hc (E t x)
    obtain ⟨β', h1, h2, h3⟩ := uq R h c1
    refine de (u := .pointer (some ⟨w.heap.size, 0, none⟩)) (w' := w.alloc (.cells (a.eval x).cells t)) ?_ (hK _ _ β' h1 h2 h3)
    simp [execOp, Instr.box, newVar, newRow]
  ·rename_i t p x
   obtain ⟨w', β', h1, h2, h3, rfl⟩ := yC R h hob (E 0 p) (E t x)
   unfold Oper.wp
   simp only [execOp, Sem.run_bind, h1, Result.andThen_ok, Sem.run_pure]
   exact hK undef w' β' h2 h3 (.tup #[] [] (λ _ => undef) rfl (λ j hj => by simp at hj) (λ j v hj => by simp at hj))
  ·rename_i t len parts
   split at h
   ·cases he : elT C.P t with
    | none => simp [j4, he] at h
    | some e =>
     obtain ⟨u, w', β', h1, h2, h3, h4⟩ := rU R h (vparts := parts.map λ (i, x) => (i, a.eval x)) (by simp [aW, he]) (λ j k u hj => by
      simp only [aW, he, getElem?_map, map_eq_some_iff] at hj
      obtain ⟨⟨k', x⟩, hj1, hj2⟩ := hj
      injection hj2 with hj2 hj3
      simp only at hj2 hj3
      subst hj2 hj3
      simp only [Array.getElem?_toList] at hj1
      exact ⟨a.eval x, by simp [hj1], E _ x⟩)
     exact de (by simp only [execOp, Sem.run_bind, h1, Result.andThen_ok, Sem.run_pure]) (hK u w' β' h2 h3 h4)
   split at h
   ·rename_i ob' v hb
    injection h with h; injection h with e1 e2; injection e2 with e2 e3; subst e1 e2 e3
    cases he : elT C.P t with
    | none => simp [bO, he] at hb
    | some e =>
     have L : ∀ l, l ∈ (aW C st.ρ t parts.toList).flatMap (λ p => bI st.H 6 p.2) ↔ l ∈ (aW C st.ρ t parts.toList).flatMap (λ p => bI st.H 6 p.2) := λ _ => Iff.rfl
     generalize hls : (aW C st.ρ t parts.toList).flatMap (λ p => bI st.H 6 p.2) = ls at *
     obtain ⟨u, w', h1, h2, h3⟩ := jA (w := w) (Y := XL X β st.H (λ l => l ∈ ls)) hb (vparts := parts.map λ (i, x) => (i, a.eval x)) (by simp [aW, he]) (λ j k u hj => by
      rw [getElem?_map] at hj
      simp only [map_eq_some_iff] at hj
      obtain ⟨⟨k0, av⟩, hj0, hj2⟩ := hj
      have hmem := mem_of_getElem? hj0
      injection hj2 with hj2 hj3
      simp only at hj2 hj3
      subst hj2 hj3
      have hj1 := hj0
      simp only [aW, he, getElem?_map, map_eq_some_iff] at hj1
      obtain ⟨⟨k', x⟩, hj1, hj2⟩ := hj1
      injection hj2 with hj2 hj3
      simp only at hj2 hj3
      subst hj2 hj3
      simp only [Array.getElem?_toList] at hj1
      refine ⟨a.eval x, by simp [hj1], bX R _ 6 (E _ x) λ l hl => ?_⟩
      rw [<- hls]
      exact mem_flatMap.2 ⟨_, hmem, hl⟩) (λ b hb => R.mu_lt b (rO hb))
     have R' := t6 R ls
     refine de (u := u) (w' := w') (by simp only [execOp, Sem.run_bind, h1, Result.andThen_ok, Sem.run_pure]) (hK u w' β (R'.quiet h2) ((pf R ls).trans (StepR.quiet h2 R'.len)) (.deep (h3.mono λ b _ hb => DD hb)))
   ·cases h
  ·rename_i t l c
   obtain ⟨u, w', β', h1, h2, h3, h4⟩ := BJ R h hob (E 0 l) (E 0 c)
   exact de (by simp only [execOp, Sem.run_bind, h1, Result.andThen_ok, Sem.run_pure]) (hK u w' β' h2 h3 h4)
  ·rename_i c
   split at h
   ·obtain ⟨callee, cargs, ctypes⟩ := c
    rename_i hcal
    simp only at hcal h
    subst hcal
    split at h
    ·rename_i s x t t' hargs htys
     split at h
     ·rename_i htt
      subst htt
      obtain rfl : cargs = #[s, x] := by rw [<- Array.toList_inj, hargs]
      obtain rfl : ctypes = #[t, t] := by rw [<- Array.toList_inj, htys]
      obtain ⟨u, w', β', h1, h2, h3, h4⟩ := Al R h hob (E t s) (E t x) type
      refine de (u := u) (w' := w') ?_ (hK u w' β' h2 h3 h4)
      simp only [execOp, resolve, invoke, builtin, Sem.run_bind, Sem.run_pure, Result.andThen_ok, map_toArray, map_cons, map_nil, h1]
     ·cases h
    ·cases h
   ·obtain ⟨callee, cargs, ctypes⟩ := c
    rename_i hcal
    simp only at hcal h
    subst hcal
    split at h
    ·rename_i s t hargs htys
     obtain rfl : cargs = #[s] := by rw [<- Array.toList_inj, hargs]
     obtain rfl : ctypes = #[t] := by rw [<- Array.toList_inj, htys]
     obtain ⟨w', β', h1, h2, h3, rfl⟩ := yS R h hob (E t s) type
     refine de (u := .tuple #[]) (w' := w') ?_ (hK _ w' β' h2 h3 (.tup #[] [] (λ _ => undef) rfl (λ j hj => by simp at hj) (λ j v hj => by simp at hj)))
     simp only [execOp, resolve, invoke, builtin, Sem.run_bind, Sem.run_pure, Result.andThen_ok, map_toArray, map_cons, map_nil, h1]
    ·cases h
   ·obtain ⟨callee, cargs, ctypes⟩ := c
    rename_i hcal
    simp only at hcal h
    subst hcal
    split at h
    ·rename_i s x t t' hargs htys
     split at h
     ·rename_i htt
      subst htt
      obtain rfl : cargs = #[s, x] := by rw [<- Array.toList_inj, hargs]
      obtain rfl : ctypes = #[t, t] := by rw [<- Array.toList_inj, htys]
      obtain ⟨u, w', β', h1, h2, h3, h4⟩ := BF R h hob (E t s) (E t x) type
      refine de (u := u) (w' := w') ?_ (hK u w' β' h2 h3 h4)
      simp only [execOp, resolve, invoke, builtin, Sem.run_bind, Sem.run_pure, Result.andThen_ok, map_toArray, map_cons, map_nil, h1]
     ·cases h
    ·cases h
   ·split at h
    ·rename_i f avs htg
     obtain ⟨args, hrun, hsz, harg⟩ := oT T G htg
     have hok := hS f
     split at h
     ·rename_i p hp
      rw [hp] at hok
      split at h
      ·rename_i ob1 r1 hr
       injection h with h; injection h with e1 e2; injection e2 with e2 e3; subst e1 e2
       unfold eX at hr
       split at hr
       ·rename_i ob1 r1 hpr
        split at hr
        ·rename_i hfd
         injection hr with hr; injection hr with e1 e2; subst e1 e2
         rcases hok with hok | hx
         case' inr =>
          obtain ⟨v, v1, v2⟩ := A2 R hx hsz harg hpr hob hfd
          exact quiet (w' := w) (by simp only [execOp]; rw [hrun type, v1]) (Keeps.refl _ _) e3.symm v2
         obtain ⟨hok, fn, hf1, hf2, hf3⟩ := hok
         have hrun' : (execOp a.eval { dst, op := .call c, type, pos, after, guard : Oper }).run C.P w = .ok (.enter f args) w := by
          simp only [execOp]
          rw [hrun type, iu hf1 hf2 hf3]
         refine oV hrun' ?_
         simp only [Bool.or_eq_true] at hfd
         by_cases hda : avs.all AV.deepArg = true
         ·have := hok w (Mu X β st.H) args (avs.map (bL st.H 6)) ob1 r1 R.mu_lt G (by simp [hsz]) (λ j u hu => by
           rw [getElem?_map] at hu
           simp only [map_eq_some_iff] at hu
           obtain ⟨av, hav, rfl⟩ := hu
           have hdd := all_eq_true.1 hda av (mem_of_getElem? hav)
           obtain ⟨v, k1, k2⟩ := harg j av hav
           rw [lc hdd]
           exact ⟨v, k1, jE hdd k2⟩) hpr hob
          refine this.mono λ e w' ⟨v, he, hk, hv⟩ => ⟨v, he, ?_⟩
          subst e3
          exact hK v w' β (R.quiet hk) (StepR.quiet hk R.len) (.deep hv)
         ·have hfl := hfd.resolve_right hda
          have := hok w X args (avs.map (bL st.H 6)) ob1 r1 R.base (λ g => (G g).mono λ b _ hb => .inl hb) (by simp [hsz]) (λ j u hu => by
           rw [getElem?_map] at hu
           simp only [map_eq_some_iff] at hu
           obtain ⟨av, hav, rfl⟩ := hu
           obtain ⟨v, k1, k2⟩ := harg j av hav
           exact ⟨v, k1, (bX R (λ _ => True) 6 k2 (λ _ _ => trivial)).mono λ b _ hb => .inl hb⟩) hpr hob
          refine this.mono λ e w' ⟨v, he, hk, hv⟩ => ⟨v, he, ?_⟩
          subst e3
          exact hK v w' β (R.quiet hk) (StepR.quiet hk R.len) (.deep (tr hfl hv))
        ·cases hr
       ·cases hr
      ·cases h
     ·rename_i p hp
      rw [hp] at hok
      obtain ⟨hok, fn, hf1, hf2, hf3⟩ := hok
      have hrun' : (execOp a.eval { dst, op := .call c, type, pos, after, guard : Oper }).run C.P w = .ok (.enter f args) w := by
       simp only [execOp]
       rw [hrun type, iu hf1 hf2 hf3]
      split at h
      ·rename_i ob1 r1 hpr
       injection h with h; injection h with e1 e2; injection e2 with e2 e3; subst e1 e2 e3
       refine oV hrun' ?_
       have := hok w (XL X β st.H (λ l => l ∈ avs.flatMap (bI st.H 6))) args (avs.map (bL st.H 6)) ob1 r1 (λ b hb => R.mu_lt b (rO hb)) (λ g => (G g).mono λ b _ hb => rO hb) (by simp [hsz]) (λ j u hu => by
        rw [getElem?_map] at hu
        simp only [map_eq_some_iff] at hu
        obtain ⟨av, hav, rfl⟩ := hu
        obtain ⟨v, k1, k2⟩ := harg j av hav
        exact ⟨v, k1, bX R _ 6 k2 λ l hl => mem_flatMap.2 ⟨av, mem_of_getElem? hav, hl⟩⟩) hpr hob
       have R' := t6 R (avs.flatMap (bI st.H 6))
       refine this.mono λ e w' ⟨v, he, hk, hv⟩ => ⟨v, he, ?_⟩
       exact hK v w' β (R'.quiet hk) ((pf R _).trans (StepR.quiet hk R'.len)) (.deep (hv.mono λ b _ hb => DD hb))
      ·cases h
     ·rename_i g hg
      rw [hg] at hok
      obtain ⟨hok, fn, hf1, hf2, hf3⟩ := hok
      have hrun' : (execOp a.eval { dst, op := .call c, type, pos, after, guard : Oper }).run C.P w = .ok (.enter f args) w := by
       simp only [execOp]
       rw [hrun type, iu hf1 hf2 hf3]
      refine oV hrun' ?_
      refine (hok w X β st.H args avs ob r H' R G hsz harg h hob).mono λ e w' ⟨v, β', he, h1, h2, h3⟩ => ⟨v, he, hK v w' β' h1 h2 h3⟩
     ·cases h
    ·cases h
  ·cases h
end
def Rel (C : Ctx) (N : Nat) (X : Nat -> Prop) (w0 : World) (β0 : List BI) (H0 : List Blk) (st : ASt) (a : Act) (w : World) : Prop :=
 ∃ β, HRel w X β st.H /\ StepR w0 β0 H0 w β st.H /\ ju w (Mu X β st.H) β st.H a st.ρ /\ nQ C w (Mu X β st.H) /\ a.tmps.size = N /\ a.defers = []
section
variable {C : Ctx} {N : Nat} {X : Nat -> Prop} {w0 : World} {β0 : List BI} {H0 : List Blk}
theorem tw {w w' : World} {β β' : List BI} {H H' : List Blk} {a : Act} {ρ : List (Nat × AV)} (T : ju w (Mu X β H) β H a ρ) (S : StepR w β H w' β' H') {u : Value} {r : AV} (hr : Rep w' (Mu X β' H') β' H' u r) (dst : Option Tmp) (hd : ∀ d, dst = some d -> d < a.tmps.size) :
  ju w' (Mu X β' H') β' H' (a.put dst u) (b7 ρ dst r) := by
 intro t
 cases dst with
 | none => exact (T t).keep S
 | some d =>
  have hd := hd d rfl
  simp only [b7, aZ, Act.put]
  split
  ·rename_i e
   subst e
   have : (a.tmps.setIfInBounds d u).getD d undef = u := by simp [Array.getD_eq_getD_getElem?, hd]
   rw [this]
   exact hr
  ·rename_i e
   have : (a.tmps.setIfInBounds d u).getD t undef = a.tmps.getD t undef := by
    simp [Array.getD_eq_getD_getElem?, Array.getElem?_setIfInBounds_ne e]
   rw [this]
   exact (T t).keep S
theorem dq {w w' : World} {β β' : List BI} {st : ASt} {H' : List Blk} {a : Act} (S0 : StepR w0 β0 H0 w β st.H) (T : ju w (Mu X β st.H) β st.H a st.ρ) (G : nQ C w (Mu X β st.H)) (hN : a.tmps.size = N) (hdef : a.defers = [])
  {u : Value} {r : AV} (R' : HRel w' X β' H') (S : StepR w β st.H w' β' H') (hr : Rep w' (Mu X β' H') β' H' u r) (dst : Option Tmp) (hd : ∀ d, dst = some d -> d < N) : Rel C N X w0 β0 H0 ⟨b7 st.ρ dst r, H'⟩ (a.put dst u) w' := by
 refine ⟨β', R', S0.trans S, tw T S hr dst (λ d h => by rw [hN]; exact hd d h), λ g => (G g).keep (λ b hb hn => S.keeps.block b hb (λ hm => hn (.inr hm))) S.keeps.size (λ b hb => S.mu b hb), ?_, ?_⟩
 ·cases dst with
  | none => exact hN
  | some d => simp [Act.put, hN]
 ·cases dst with
  | none => exact hdef
  | some d => exact hdef
theorem dy {w : World} {β : List BI} {H : List Blk} {a : Act} {ρ : List (Nat × AV)} (T : ju w X β H a ρ) {ops : Array Oper} {o : Oper} {g : Bool} (h : bg ops ρ o = some g) : Region.wanted o (yielded ops a.tmps) = g := by
 unfold bg at h
 unfold Region.wanted
 split at h
 ·rename_i hg
  injection h with h
  rw [hg]
  exact h
 ·rename_i j want hg
  rw [hg]
  simp only
  split at h
  ·rename_i d hd
   have hT := T d
   split at h
   ·rename_i b hb
    injection h with h
    subst h
    rw [hb] at hT
    have h1 := ct hT
    have h2 : a.tmps[d]? = some (.bool b) := by
     rw [Array.getD_eq_getD_getElem?] at h1
     cases hh : a.tmps[d]? with
     | none => rw [hh] at h1; cases h1
     | some x => rw [hh] at h1; simp at h1; rw [h1]
    unfold yielded
    rw [hd]
    simp [h2]
   ·rename_i hb
    injection h with h
    subst h
    rw [hb] at hT
    obtain ⟨cs, val, h1, hl, _⟩ := oP hT
    have hcs : cs = #[] := Array.eq_empty_of_size_eq_zero (by simpa using hl)
    subst hcs
    unfold yielded
    rw [hd]
    rw [Array.getD_eq_getD_getElem?] at h1
    cases hh : a.tmps[d]? with
    | none => simp [hh]
    | some x => rw [hh] at h1; simp at h1; subst h1; simp [hh]
   ·cases h
  ·cases h
theorem kK {w : World} {Y : Nat -> Prop} {β : List BI} {H : List Blk} : Rep w Y β H undef (.tup []) :=
 .tup #[] [] (λ _ => undef) rfl (λ j hj => by simp at hj) (λ j v hj => by simp at hj)
theorem iU (hS : au C) {ops : Array Oper} {Q : Exit -> Act -> World -> Prop} : ∀ (l : List Oper), (∀ o ∈ l, ∀ d, o.dst = some d -> d < N) -> ∀ {st : ASt} {K : ASt -> Prop} {a : Act} {w : World}, gQ C ops l st K -> Rel C N X w0 β0 H0 st a w ->
  (∀ st' a' w', Rel C N X w0 β0 H0 st' a' w' -> K st' -> Q .normal a' w') -> wpList C.P ops Q l a w
 | [], _, st, K, a, w, h, hr, hQ => hQ st a w hr h
 | o :: r, hd, st, K, a, w, h, hr, hQ => by
  obtain ⟨β, R, S0, T, G, hN, hdef⟩ := hr
  unfold gQ at h
  split at h
  ·exact h.elim
  ·rename_i g hg
   have hw := dy T hg
   have ih := λ {st : ASt} {a : Act} {w : World} => iU hS r (λ o ho => hd o (mem_cons_of_mem _ ho)) (st := st) (K := K) (a := a) (w := w) (ops := ops) (Q := Q)
   unfold wpList
   rw [hw]
   cases g with
   | true =>
    have h := h.1 rfl
    split at h
    ·rename_i ob v H' hst
     rw [if_pos rfl]
     refine .inl (cV hS R T G hst h.1 λ u w' β' R' S hr => ih h.2 (dq S0 T G hN hdef R' S hr o.dst (hd o (by simp))) hQ)
    ·exact h.elim
   | false =>
    have h := h.2 rfl
    rw [if_neg (by simp)]
    exact ih h (dq S0 T G hN hdef R (StepR.refl _ _ _ R.len) kK o.dst (hd o (by simp))) hQ
end
section
variable {C : Ctx} {ρ ρ' : List (Nat × AV)} {H : List Blk}
theorem HE {t : TypeId} {x : Operand} (h : ∀ i, x = .tmp i -> aZ ρ i = aZ ρ' i) : aev C ρ t x = aev C ρ' t x := by
 cases x with
 | tmp i => exact h i rfl
 | _ => rfl
theorem fC : ∀ {xs : List Operand} {ts : List TypeId}, (∀ x ∈ xs, ∀ t, aev C ρ t x = aev C ρ' t x) -> cg C ρ xs ts = cg C ρ' xs ts
 | [], ts, _ => by cases ts <;> rfl
 | x :: r, [], h => by simp only [cg, h x (by simp) 0, fC (xs := r) (ts := []) (λ y hy => h y (mem_cons_of_mem _ hy))]
 | x :: r, t :: q, h => by simp only [cg, h x (by simp) t, fC (xs := r) (ts := q) (λ y hy => h y (mem_cons_of_mem _ hy))]
theorem lh {lo : Option Operand} {t : TypeId} (h : ∀ x, lo = some x -> aev C ρ t x = aev C ρ' t x) : lo.map (aev C ρ t) = lo.map (aev C ρ' t) := by
 cases lo with
 | none => rfl
 | some x => simp [h x rfl]
theorem oL {c : Call} (h : ∀ x ∈ c.operands, ∀ t, aev C ρ t x = aev C ρ' t x) : target C ρ c = target C ρ' c := by
 have ha : ∀ x ∈ c.args.toList, ∀ t, aev C ρ t x = aev C ρ' t x := λ x hx => h x (by simp only [Call.operands]; exact Array.mem_append.2 (.inr (Array.mem_toList_iff.1 hx)))
 unfold target
 split
 ·rename_i f hf
  rw [h f (by simp [Call.operands, hf]) 0, fC ha]
 ·rfl
theorem jK {parts : List (Nat × Operand)} {ty : Nat -> TypeId} (h : ∀ x ∈ parts.map (·.2), ∀ t, aev C ρ t x = aev C ρ' t x) : (parts.map λ p => (p.1, aev C ρ (ty p.1) p.2)) = parts.map λ p => (p.1, aev C ρ' (ty p.1) p.2) :=
 List.map_congr_left λ p hp => by rw [h p.2 (mem_map.2 ⟨p, hp, rfl⟩)]
theorem wm {c : Call} (h : ∀ x ∈ c.operands, ∀ t, aev C ρ t x = aev C ρ' t x) : ∀ x ∈ c.args.toList, ∀ t, aev C ρ t x = aev C ρ' t x := λ x hx => h x (by simp only [Call.operands]; exact Array.mem_append.2 (.inr (Array.mem_toList_iff.1 hx)))
theorem yo {t : TypeId} {parts : List (Nat × Operand)} (hp : ∀ x ∈ parts.map (·.2), ∀ t, aev C ρ t x = aev C ρ' t x) : mf C ρ t parts = mf C ρ' t parts := by
 unfold mf
 cases zT C.P t with
 | none => rfl
 | some z =>
  simp only
  cases eB C.P t with
  | none => simp only; rw [jK (ty := yM C t) hp]
  | some ne =>
   obtain ⟨n, e⟩ := ne
   simp only
   rw [jK (ty := λ _ => e) hp]
theorem Bu {o : Oper} (h : ∀ x ∈ o.op.operands, ∀ t, aev C ρ t x = aev C ρ' t x) : pA C ρ o = pA C ρ' o := by
 obtain ⟨dst, op, type, pos, after, guard⟩ := o
 simp only at h
 unfold pA
 simp only
 cases op <;> simp only [Op.operands] at h <;> try rfl
 case move x => simp only; rw [h x (by simp)]
 case assign x => simp only; rw [h x (by simp)]
 case pick c a b => simp only; rw [h c (by simp), h a (by simp), h b (by simp)]
 case binOp op t x y ty => simp only; rw [h x (by simp), h y (by simp)]
 case unOp op t x => simp only; rw [h x (by simp)]
 case convert s d x => simp only; rw [h x (by simp)]
 case field t x k => simp only; rw [h x (by simp)]
 case fieldAddr t x k => simp only; rw [h x (by simp)]
 case indexAddr t x ix => simp only; rw [h x (by simp), h ix (by simp)]
 case index t x ix => simp only; rw [h x (by simp), h ix (by simp)]
 case slice t x lo hi mx =>
  simp only
  rw [h x (by simp), lh (lo := lo) (λ y hy => h y (by subst hy; simp) _), lh (lo := hi) (λ y hy => h y (by subst hy; simp) _), lh (lo := mx) (λ y hy => h y (by subst hy; simp) _)]
 case extract x k => simp only; rw [h x (by simp)]
 case makeFunc fn first cap =>
  cases fn with
  | func f =>
   simp only
   have : cap.toList.map (aev C ρ 0) = cap.toList.map (aev C ρ' 0) := List.map_congr_left λ x hx => h x (Array.mem_append.2 (.inr (Array.mem_toList_iff.1 hx))) 0
   rw [this]
  | _ => rfl
 case nilCheck x => simp only; rw [h x (by simp)]
 case lookup t m x ok => simp only; rw [h m (by simp), h x (by simp)]
 case build t parts =>
  have hp : ∀ x ∈ parts.toList.map (·.2), ∀ t, aev C ρ t x = aev C ρ' t x := λ x hx => h x (by simpa using hx)
  simp only
  rw [yo hp]
 case call c =>
  have ha := wm h
  obtain ⟨callee, args, argTypes⟩ := c
  simp only at ha ⊢
  split
  ·split
   ·rename_i x t hx ht
    rw [ha x (by rw [hx]; simp)]
   ·rfl
  ·rw [fC ha]
  ·rw [fC ha]
  ·rfl
theorem AN {o : Oper} (h : ∀ x ∈ o.op.operands, ∀ t, aev C ρ t x = aev C ρ' t x) : ua C ρ H o = ua C ρ' H o := by
 obtain ⟨dst, op, type, pos, after, guard⟩ := o
 simp only at h
 unfold ua
 simp only
 cases op <;> simp only [Op.operands] at h <;> try rfl
 case load t p => simp only; rw [h p (by simp)]
 case buildSlice t len parts =>
  have hp : ∀ x ∈ parts.toList.map (·.2), ∀ t, aev C ρ t x = aev C ρ' t x := λ x hx => h x (by simpa using hx)
  have : aW C ρ t parts.toList = aW C ρ' t parts.toList := by
   unfold aW
   split
   ·rename_i e _; exact jK (ty := λ _ => e) hp
   ·rfl
  simp only
  rw [this]
 case convert s d x => simp only; rw [h x (by simp)]
 case call c => simp only; rw [oL h]
theorem De {o : Oper} (h : ∀ x ∈ o.op.operands, ∀ t, aev C ρ t x = aev C ρ' t x) : yQ C ρ H o = yQ C ρ' H o := by
 obtain ⟨dst, op, type, pos, after, guard⟩ := o
 simp only at h
 unfold yQ
 simp only
 cases op <;> simp only [Op.operands] at h <;> try rfl
 case box t x => simp only; rw [h x (by simp)]
 case store t p x => simp only; rw [h p (by simp), h x (by simp)]
 case buildSlice t len parts =>
  have hp : ∀ x ∈ parts.toList.map (·.2), ∀ t, aev C ρ t x = aev C ρ' t x := λ x hx => h x (by simpa using hx)
  have : aW C ρ t parts.toList = aW C ρ' t parts.toList := by
   unfold aW
   split
   ·rename_i e _; exact jK (ty := λ _ => e) hp
   ·rfl
  simp only
  rw [this]
 case makeSlice t l c => simp only; rw [h l (by simp), h c (by simp)]
 case call c =>
  have ha := wm h
  have ht := oL h
  obtain ⟨callee, args, argTypes⟩ := c
  simp only at ha ⊢
  split
  ·split
   ·rename_i s x t t' hx _
    rw [ha s (by rw [hx]; simp), ha x (by rw [hx]; simp)]
   ·rfl
  ·split
   ·rename_i s t hx _
    rw [ha s (by rw [hx]; simp)]
   ·rfl
  ·split
   ·rename_i s x t t' hx _
    rw [ha s (by rw [hx]; simp), ha x (by rw [hx]; simp)]
   ·rfl
  ·rw [ht]
theorem rg {o : Oper} (h : ∀ x ∈ o.op.operands, ∀ t, aev C ρ t x = aev C ρ' t x) : aI C ⟨ρ, H⟩ o = aI C ⟨ρ', H⟩ o := by
 unfold aI
 cases bu C o with
 | pure => simp only [Bu h]
 | read => simp only [AN h]
 | eff => simp only [De h]
theorem uz {o : Oper} (hk : bu C o = .pure) {ob : Prop} {v : AV} {H' : List Blk} (h : aI C ⟨ρ, H⟩ o = some (ob, v, H')) : H' = H /\ ∀ H2, aI C ⟨ρ, H2⟩ o = some (ob, v, H2) := by
 unfold aI at h ⊢
 rw [hk] at h
 simp only at h
 rw [hk]
 split at h
 ·rename_i h1
  injection h with h; injection h with e1 e2; injection e2 with e2 e3; subst e1 e2 e3
  refine ⟨rfl, λ H2 => ?_⟩
  simp only [h1]
 ·cases h
theorem nT {o : Oper} (hk : bu C o = .read) {ob : Prop} {v : AV} {H' : List Blk} (h : aI C ⟨ρ, H⟩ o = some (ob, v, H')) : H' = H := by
 unfold aI at h
 rw [hk] at h
 simp only at h
 split at h
 ·injection h with h; injection h with e1 e2; injection e2 with e2 e3; exact e3.symm
 ·cases h
end
def bD (o : Oper) : List Nat := (o.after.toList.filter λ e => Region.binds .any e).map (·.on)
def Jt : List Oper -> List (List Nat) -> List (List Nat)
 | [], acc => acc
 | o :: r, acc => Jt r (acc ++ [(bD o).foldl (λ s d => (d :: acc.getD d []).foldl (λ s x => if s.contains x then s else x :: s) s) []])
def aE (ops : Array Oper) (i : Nat) : Oper := ops.getD i default
def bW (C : Ctx) (o : Oper) : Bool := match bu C o with | .eff => true | _ => false
def qQ (C : Ctx) (o : Oper) : Bool := match bu C o with | .pure => true | _ => false
def looks (ops : Array Oper) (o : Oper) : List Tmp :=
 (o.op.operands.toList.filterMap λ x => match x with | .tmp t => some t | _ => none) ++
 (match o.guard with
  | some (j, _) => match (ops[j]?).bind (·.dst) with | some d => [d] | none => []
  | none => [])
def En (C : Ctx) (ops : Array Oper) (x y : Oper) : Bool :=
 (match x.dst with | some d => (looks ops y).contains d | none => false) || (bW C x && !qQ C y)
def kV (C : Ctx) (ops : Array Oper) (x y : Oper) : Bool :=
 (match x.dst with | some d => (looks ops y).contains d | none => false) || (bW C x && bW C y)
def tL (ops : Array Oper) (cf : Oper -> Oper -> Bool) (B : Nat -> List Nat) (i : Nat) : Bool :=
 (bD (aE ops i)).all (λ d => decide (d < i)) &&
 (B i).all (λ x => decide (x < i) && ((bD (aE ops i)).contains x || (bD (aE ops i)).any λ d => (B d).contains x)) &&
 (List.range ops.size).all λ j => i == j ||
  ((!cf (aE ops i) (aE ops j) || (B j).contains i || (B i).contains j) &&
   (match (aE ops i).dst with | some d => (aE ops j).dst != some d | none => true))
def DQ (C : Ctx) (ops : Array Oper) : Bool :=
 (List.range ops.size).all (tL ops (En C ops) λ i => (Jt ops.toList []).getD i [])
def J3 (C : Ctx) (ops : Array Oper) : Bool :=
 (List.range ops.size).all (tL ops (kV C ops) λ i => (Jt ops.toList []).getD i [])
section
variable {C : Ctx} {N : Nat} {X : Nat -> Prop} {w0 : World} {β0 : List BI} {H0 : List Blk}
structure Trace (C : Ctx) (ops : Array Oper) (k : Nat) (st : ASt) (v : Nat -> AV) (ρ : Nat -> List (Nat × AV)) (H : Nat -> List Blk) : Prop where
 ρ0 : ρ k = st.ρ
 H0 : H k = st.H
 step : ∀ i, k <= i -> i < ops.size -> ∃ g, bg ops (ρ i) (aE ops i) = some g /\ (g = true -> ∃ ob, aI C ⟨ρ i, H i⟩ (aE ops i) = some (ob, v i, H (i + 1)) /\ ob) /\ (g = false -> v i = .tup [] /\ H (i + 1) = H i) /\ ρ (i + 1) = b7 (ρ i) (aE ops i).dst (v i)
theorem sI {ops : Array Oper} : ∀ (l : List Oper) (k : Nat) (st : ASt) (K : ASt -> Prop), (∀ j : Nat, l[j]? = ops[k + j]?) -> k <= ops.size -> gQ C ops l st K -> ∃ v ρ H, Trace C ops k st v ρ H /\ K ⟨ρ ops.size, H ops.size⟩
 | [], k, st, K, hl, hk, h => by
  have h0 := hl 0
  simp at h0
  have : k = ops.size := by omega
  subst this
  exact ⟨λ _ => .undef, λ _ => st.ρ, λ _ => st.H, ⟨rfl, rfl, λ i h1 h2 => by omega⟩, h⟩
 | o :: r, k, st, K, hl, hk, h => by
  have h0 := hl 0
  simp only [List.getElem?_cons_zero, add_zero] at h0
  have hlt : k < ops.size := (Array.getElem?_eq_some_iff.1 h0.symm).1
  have ho : aE ops k = o := by simp [aE, Array.getD_eq_getD_getElem?, <- h0]
  have hl' : ∀ j : Nat, r[j]? = ops[k + 1 + j]? := λ j => by have := hl (j + 1); rwa [List.getElem?_cons_succ, show k + (j + 1) = k + 1 + j by omega] at this
  unfold gQ at h
  split at h
  ·exact h.elim
  ·rename_i g hg
   have fin : ∀ (vk : AV) (Hk : List Blk), ((g = true -> ∃ ob, aI C ⟨st.ρ, st.H⟩ o = some (ob, vk, Hk) /\ ob) /\ (g = false -> vk = .tup [] /\ Hk = st.H)) -> gQ C ops r ⟨b7 st.ρ o.dst vk, Hk⟩ K -> ∃ v ρ H, Trace C ops k st v ρ H /\ K ⟨ρ ops.size, H ops.size⟩ := by
    intro vk Hk hst hr
    obtain ⟨v, ρ, H, hT, hK⟩ := sI r (k + 1) _ K hl' (by omega) hr
    refine ⟨λ i => if i = k then vk else v i, λ i => if i = k then st.ρ else ρ i, λ i => if i = k then st.H else H i, ⟨by simp, by simp, λ i h1 h2 => ?_⟩, ?_⟩
    ·by_cases e : i = k
     ·subst e
      refine ⟨g, by simpa [ho] using hg, λ hgt => ?_, λ hgf => ?_, ?_⟩
      ·simp only [if_true, ho, Nat.succ_ne_self, if_false, hT.H0]
       exact hst.1 hgt
      ·simp only [if_true, Nat.succ_ne_self, if_false, hT.H0]
       exact hst.2 hgf
      ·simp only [if_true, ho, Nat.succ_ne_self, if_false, hT.ρ0]
     ·have := hT.step i (by omega) h2
      simp only [e, if_false, show ¬ i + 1 = k by omega]
      exact this
    ·have e : ¬ ops.size = k := by omega
     simpa only [e, if_false] using hK
   cases g with
   | true =>
    have h := h.1 rfl
    split at h
    ·rename_i ob vk Hk hst
     exact fin vk Hk ⟨λ _ => ⟨ob, hst, h.1⟩, λ h => by cases h⟩ h.2
    ·exact h.elim
   | false => exact fin (.tup []) st.H ⟨λ h => (by cases h), λ _ => ⟨rfl, rfl⟩⟩ (h.2 rfl)
theorem mW {ρ : List (Nat × AV)} {dst : Option Nat} {v : AV} {t : Nat} : aZ (b7 ρ dst v) t = if dst = some t then v else aZ ρ t := by
 cases dst with
 | none => simp [b7]
 | some d => simp [b7, aZ]
theorem Br {ops : Array Oper} {ρ ρ' : List (Nat × AV)} {o : Oper} (h : ∀ t ∈ looks ops o, aZ ρ t = aZ ρ' t) : bg ops ρ o = bg ops ρ' o := by
 unfold bg
 cases hg : o.guard with
 | none => rfl
 | some jw =>
  obtain ⟨j, want⟩ := jw
  simp only
  cases hd : (ops[j]?).bind (·.dst) with
  | none => rfl
  | some d =>
   simp only
   rw [h d (by simp [looks, hg, hd])]
theorem vV {ops : Array Oper} {ρ ρ' : List (Nat × AV)} {o : Oper} (h : ∀ t ∈ looks ops o, aZ ρ t = aZ ρ' t) : ∀ x ∈ o.op.operands, ∀ t, aev C ρ t x = aev C ρ' t x := by
 intro x hx t
 refine HE λ i hi => h i ?_
 subst hi
 exact mem_append.2 (.inl (List.mem_filterMap.2 ⟨.tmp i, Array.mem_toList_iff.2 hx, rfl⟩))
structure RegFacts (C : Ctx) (ops : Array Oper) (B : Nat -> List Nat) : Prop where
 dir : ∀ i, i < ops.size -> ∀ d ∈ bD (aE ops i), d < i
 lt : ∀ i, i < ops.size -> ∀ x ∈ B i, x < i
 clo : ∀ i, i < ops.size -> ∀ x ∈ B i, x ∈ bD (aE ops i) ∨ ∃ d ∈ bD (aE ops i), x ∈ B d
 con : ∀ i j, i < ops.size -> j < ops.size -> i ≠ j -> kV C ops (aE ops i) (aE ops j) = true -> i ∈ B j ∨ j ∈ B i
 dst : ∀ i j, i < ops.size -> j < ops.size -> i ≠ j -> ∀ d, (aE ops i).dst = some d -> (aE ops j).dst ≠ some d
theorem pG {ops : Array Oper} {cf : Oper -> Oper -> Bool} {B : Nat -> List Nat} (h : (List.range ops.size).all (tL ops cf B) = true) (hcf : ∀ x y, kV C ops x y = true -> cf x y = true) : RegFacts C ops B /\ ∀ i j, i < ops.size -> j < ops.size -> i ≠ j -> cf (aE ops i) (aE ops j) = true -> i ∈ B j ∨ j ∈ B i := by
 have hi : ∀ i, i < ops.size -> tL ops cf B i = true := λ i hi => all_eq_true.1 h i (mem_range.2 hi)
 have parts : ∀ i, i < ops.size -> ((∀ d ∈ bD (aE ops i), d < i) /\ (∀ x ∈ B i, x < i /\ (x ∈ bD (aE ops i) ∨ ∃ d ∈ bD (aE ops i), x ∈ B d))) /\ ∀ j, j < ops.size -> i ≠ j ->
   (cf (aE ops i) (aE ops j) = true -> i ∈ B j ∨ j ∈ B i) /\ ∀ d, (aE ops i).dst = some d -> (aE ops j).dst ≠ some d := by
  intro i hlt
  have h1 := hi i hlt
  unfold tL at h1
  simp only [Bool.and_eq_true, all_eq_true, decide_eq_true_eq, Bool.or_eq_true, List.any_eq_true, List.contains_iff_mem] at h1
  refine ⟨⟨h1.1.1, λ x hx => h1.1.2 x hx⟩, λ j hj hne => ?_⟩
  have h2 := (h1.2 j (mem_range.2 hj)).resolve_left (by simpa using hne)
  refine ⟨λ hc => ?_, λ d hd => ?_⟩
  ·rcases h2.1 with (h3 | h3) | h3
   ·simp [hc] at h3
   ·exact .inl h3
   ·exact .inr h3
  ·have h3 := h2.2
   rw [hd] at h3
   simpa using h3
 exact ⟨⟨λ i hi => (parts i hi).1.1, λ i hi x hx => ((parts i hi).1.2 x hx).1, λ i hi x hx => ((parts i hi).1.2 x hx).2, λ i j hi hj hne hc => ((parts i hi).2 j hj hne).1 (hcf _ _ hc), λ i j hi hj hne => ((parts i hi).2 j hj hne).2⟩, λ i j hi hj hne => ((parts i hi).2 j hj hne).1⟩
theorem xk {ops : Array Oper} {x y : Oper} (h : kV C ops x y = true) : En C ops x y = true := by
 unfold kV at h
 unfold En
 rcases Bool.or_eq_true_iff.1 h with h | h
 ·rw [h]; rfl
 ·simp only [Bool.and_eq_true] at h
  have : qQ C y = false := by
   have h2 := h.2
   unfold bW at h2
   unfold qQ
   cases hk : bu C y <;> simp_all
  simp [h.1, this]
theorem BH {ops : Array Oper} (h : DQ C ops = true) : ∃ B, RegFacts C ops B /\ ∀ i j, i < ops.size -> j < ops.size -> i ≠ j -> bW C (aE ops i) = true -> qQ C (aE ops j) = false -> i ∈ B j ∨ j ∈ B i := by
 obtain ⟨F, h2⟩ := pG h λ _ _ => xk
 exact ⟨_, F, λ i j hi hj hne h3 h4 => h2 i j hi hj hne (by simp [En, h3, h4])⟩
theorem xZ {ops : Array Oper} (h : J3 C ops = true) : RegFacts C ops λ i => (Jt ops.toList []).getD i [] := (pG h λ _ _ h => h).1
end
section
variable {C : Ctx} {N : Nat} {X : Nat -> Prop} {w0 : World} {β0 : List BI} {H0 : List Blk} {ops : Array Oper} {B : Nat -> List Nat} {st : ASt} {v : Nat -> AV} {ρ : Nat -> List (Nat × AV)} {H : Nat -> List Blk}
theorem pn (T : Trace C ops 0 st v ρ H) : ∀ i, i <= ops.size -> ∀ t, (∀ j, j < i -> (aE ops j).dst ≠ some t) -> aZ (ρ i) t = aZ (ρ 0) t
 | 0, _, _, _ => rfl
 | i + 1, hi, t, h => by
  obtain ⟨g, _, _, _, h4⟩ := T.step i (zero_le _) hi
  rw [h4, mW, if_neg (h i (by omega))]
  exact pn T i (by omega) t λ j hj => h j (by omega)
theorem C8 (T : Trace C ops 0 st v ρ H) (F : RegFacts C ops B) : ∀ i, i <= ops.size -> ∀ j d, j < i -> (aE ops j).dst = some d -> aZ (ρ i) d = v j
 | 0, _, _, _, h, _ => by omega
 | i + 1, hi, j, d, hj, hd => by
  obtain ⟨g, _, _, _, h4⟩ := T.step i (zero_le _) hi
  rw [h4, mW]
  by_cases e : j = i
  ·subst e; rw [if_pos hd]
  ·rw [if_neg (λ h => F.dst j i (by omega) (by omega) e d hd h)]
   exact C8 T F i (by omega) j d (by omega) hd
theorem wM (T : Trace C ops 0 st v ρ H) {i : Nat} (hi : i < ops.size) (he : bW C (aE ops i) = false) : H (i + 1) = H i := by
 obtain ⟨g, _, h2, h3, _⟩ := T.step i (zero_le _) hi
 cases g with
 | true =>
  obtain ⟨ob, h2, _⟩ := h2 rfl
  cases hk : bu C (aE ops i) with
  | pure => exact (uz hk h2).1
  | read => exact nT hk h2
  | eff => simp [bW, hk] at he
 | false => exact (h3 rfl).2
theorem ta (T : Trace C ops 0 st v ρ H) {k : Nat} : ∀ m, k + m <= ops.size -> (∀ e, k <= e -> e < k + m -> bW C (aE ops e) = false) -> H k = H (k + m)
 | 0, _, _ => rfl
 | m + 1, hm, he => by
  rw [ta T m (by omega) λ e h1 h2 => he e h1 (by omega)]
  exact (wM T (by omega) (he (k + m) (by omega) (by omega))).symm
theorem yD (T : Trace C ops 0 st v ρ H) {k k' : Nat} (hk : k <= ops.size) (hk' : k' <= ops.size) (h : ∀ e, e < ops.size -> bW C (aE ops e) = true -> (e < k ↔ e < k')) : H k = H k' := by
 rcases Nat.le_total k k' with h1 | h1
 ·have := ta T (k := k) (k' - k) (by omega) λ e e1 e2 => by
   cases hh : bW C (aE ops e) with
   | false => rfl
   | true => have := (h e (by omega) hh).2 (by omega); omega
  rwa [show k + (k' - k) = k' by omega] at this
 ·have := ta T (k := k') (k - k') (by omega) λ e e1 e2 => by
   cases hh : bW C (aE ops e) with
   | false => rfl
   | true => have := (h e (by omega) hh).1 (by omega); omega
  rw [show k' + (k - k') = k by omega] at this
  exact this.symm
structure Inv (C : Ctx) (ops : Array Oper) (B : Nat -> List Nat) (v : Nat -> AV) (ρ : Nat -> List (Nat × AV)) (H : Nat -> List Blk) (L : Nat -> Prop) (ρS : List (Nat × AV)) (HS : List Blk) : Prop where
 clo : ∀ i, i < ops.size -> L i -> ∀ x ∈ B i, L x
 val : ∀ i, i < ops.size -> L i -> ∀ d, (aE ops i).dst = some d -> aZ ρS d = v i
 rest : ∀ t, (∀ i, i < ops.size -> L i -> (aE ops i).dst ≠ some t) -> aZ ρS t = aZ (ρ 0) t
 heap : ∀ k, k <= ops.size -> (∀ i, i < ops.size -> bW C (aE ops i) = true -> (L i ↔ i < k)) -> HS = H k
theorem vF {x y : Oper} (h1 : bW C x = true) (h2 : bW C y = true) : kV C ops x y = true := by simp [kV, h1, h2]
theorem Hi {x y : Oper} {d : Nat} (h1 : x.dst = some d) (h2 : d ∈ looks ops y) : kV C ops x y = true := by simp [kV, h1, h2]
theorem behind (F : RegFacts C ops B) {L : Nat -> Prop} (hclo : ∀ i, i < ops.size -> L i -> ∀ x ∈ B i, L x) {i : Nat} (hi : i < ops.size) (hd : ∀ d ∈ bD (aE ops i), L d) : ∀ x ∈ B i, L x := by
 intro x hx
 rcases F.clo i hi x hx with h | ⟨d, h, h'⟩
 ·exact hd x h
 ·exact hclo d (by have := F.dir i hi d h; omega) (hd d h) x h'
theorem FV (T : Trace C ops 0 st v ρ H) (F : RegFacts C ops B) {L : Nat -> Prop} {ρS : List (Nat × AV)} {HS : List Blk} (I : Inv C ops B v ρ H L ρS HS) {i : Nat} (hi : i < ops.size) (hL : ¬ L i) (hd : ∀ d ∈ bD (aE ops i), L d) :
  ∀ t ∈ looks ops (aE ops i), aZ ρS t = aZ (ρ i) t := by
 have hB := behind F I.clo hi hd
 intro t ht
 by_cases hex : ∃ j, j < ops.size /\ (aE ops j).dst = some t
 ·obtain ⟨j, hj, hdj⟩ := hex
  by_cases e : j = i
  ·subst e
   have h1 : aZ ρS t = aZ (ρ 0) t := I.rest t λ k hk hLk hdk => by
    by_cases e : k = j
    ·subst e; exact hL hLk
    ·exact F.dst j k hj hk (λ h => e h.symm) t hdj hdk
   rw [h1, pn T j (by omega) t λ k hk hdk => F.dst j k hj (by omega) (by omega) t hdj hdk]
  ·rcases F.con j i hj hi e (Hi hdj ht) with h | h
   ·rw [I.val j hj (hB j h) t hdj, C8 T F i (by omega) j t (F.lt i hi j h) hdj]
   ·have hij := F.lt j hj i h
    have hnL : ¬ L j := λ h' => hL (I.clo j hj h' i h)
    rw [I.rest t λ k hk hLk hdk => by
     by_cases e' : k = j
     ·subst e'; exact hnL hLk
     ·exact F.dst j k hj hk (λ h => e' h.symm) t hdj hdk]
    rw [pn T i (by omega) t λ k hk hdk => by
     by_cases e' : k = j
     ·omega
     ·exact F.dst j k hj (by omega) (λ h => e' h.symm) t hdj hdk]
 ·rw [I.rest t λ k hk _ hdk => hex ⟨k, hk, hdk⟩, pn T i (by omega) t λ k hk hdk => hex ⟨k, by omega, hdk⟩]
theorem sQ (F : RegFacts C ops B) {L : Nat -> Prop} {ρS : List (Nat × AV)} {HS : List Blk} (I : Inv C ops B v ρ H L ρS HS) {i : Nat} (hi : i < ops.size) (hL : ¬ L i) (hd : ∀ d ∈ bD (aE ops i), L d) (hp : bW C (aE ops i) = true) :
  (∀ e, e < ops.size -> bW C (aE ops e) = true -> (L e ↔ e < i)) := by
 have hB := behind F I.clo hi hd
 intro e he hee
 by_cases h : e = i
 ·subst h
  exact ⟨λ h => absurd h hL, λ h => by omega⟩
 ·rcases F.con e i he hi h (vF hee hp) with h1 | h1
  ·exact ⟨λ _ => F.lt i hi e h1, λ _ => hB e h1⟩
  ·have := F.lt e he i h1
   exact ⟨λ h2 => absurd (I.clo e he h2 i h1) hL, λ h2 => by omega⟩
theorem Kl (T : Trace C ops 0 st v ρ H) (F : RegFacts C ops B) {L : Nat -> Prop} {ρS : List (Nat × AV)} {HS : List Blk} (I : Inv C ops B v ρ H L ρS HS) {i : Nat} (hi : i < ops.size) (hL : ¬ L i) (hd : ∀ d ∈ bD (aE ops i), L d)
  {HS' : List Blk} (hH : (bW C (aE ops i) = true -> HS' = H (i + 1)) /\ (bW C (aE ops i) = false -> HS' = HS)) : Inv C ops B v ρ H (λ j => j = i ∨ L j) (b7 ρS (aE ops i).dst (v i)) HS' := by
 have hB := behind F I.clo hi hd
 refine ⟨λ j hj hl x hx => ?_, λ j hj hl d hdj => ?_, λ t ht => ?_, λ k hk hsep => ?_⟩
 ·rcases hl with rfl | hl
  ·exact .inr (hB x hx)
  ·exact .inr (I.clo j hj hl x hx)
 ·rw [mW]
  by_cases e : j = i
  ·subst e; rw [if_pos hdj]
  ·rw [if_neg (λ h => F.dst j i hj hi e d hdj h)]
   exact I.val j hj (hl.resolve_left e) d hdj
 ·rw [mW, if_neg (ht i hi (.inl rfl))]
  exact I.rest t λ k hk hlk => ht k hk (.inr hlk)
 ·cases he : bW C (aE ops i) with
  | true =>
   rw [hH.1 he]
   have h1 := sQ F I hi hL hd he
   have hik := (hsep i hi he).1 (.inl rfl)
   refine yD T hi hk λ e he1 he2 => ?_
   by_cases h : e = i
   ·subst h; exact ⟨λ _ => hik, λ _ => by omega⟩
   ·have h2 := h1 e he1 he2
    have h3 := hsep e he1 he2
    constructor
    ·intro h4; exact h3.1 (.inr (h2.2 (by omega)))
    ·intro h4
     have := h2.1 ((h3.2 h4).resolve_left h)
     omega
  | false =>
   rw [hH.2 he]
   refine I.heap k hk λ e he1 he2 => ?_
   have h3 := hsep e he1 he2
   have hne : e ≠ i := λ h => by subst h; rw [he] at he2; cases he2
   exact ⟨λ h => h3.1 (.inr h), λ h => (h3.2 h).resolve_left hne⟩
theorem JS (F : RegFacts C ops B) {L : Nat -> Prop} (hclo : ∀ i, i < ops.size -> L i -> ∀ x ∈ B i, L x) : ∀ n, n <= ops.size -> ∃ k, k <= n /\ ∀ e, e < n -> bW C (aE ops e) = true -> (L e ↔ e < k)
 | 0, _ => ⟨0, le_refl _, λ e he => by omega⟩
 | n + 1, hn => by
  obtain ⟨k, hk, h⟩ := JS F hclo n (by omega)
  by_cases hl : bW C (aE ops n) = true /\ L n
  ·refine ⟨n + 1, le_refl _, λ e he hee => ⟨λ _ => he, λ _ => ?_⟩⟩
   by_cases e1 : e = n
   ·subst e1; exact hl.2
   ·rcases F.con e n (by omega) (by omega) e1 (vF hee hl.1) with h1 | h1
    ·exact hclo n (by omega) hl.2 e h1
    ·have := F.lt e (by omega) n h1; omega
  ·refine ⟨k, by omega, λ e he hee => ?_⟩
   by_cases e1 : e = n
   ·subst e1
    exact ⟨λ h2 => absurd ⟨hee, h2⟩ hl, λ h2 => by omega⟩
   ·exact h e (by omega) hee
def Ds (C : Ctx) (ops : Array Oper) (B : Nat -> List Nat) (v : Nat -> AV) (ρ : Nat -> List (Nat × AV)) (H : Nat -> List Blk) : Prop :=
 ∀ i k, i < ops.size -> k <= ops.size -> bu C (aE ops i) = .read -> bg ops (ρ i) (aE ops i) = some true -> (∀ e, e < ops.size -> bW C (aE ops e) = true -> e ∈ B i -> e < k) -> (∀ e, e < ops.size -> bW C (aE ops e) = true -> i ∈ B e -> k <= e) ->
  ∃ ob, aI C ⟨ρ i, H k⟩ (aE ops i) = some (ob, v i, H k) /\ ob
theorem GF (T : Trace C ops 0 st v ρ H) (F : RegFacts C ops B) (hf : ∀ i j, i < ops.size -> j < ops.size -> i ≠ j -> bW C (aE ops i) = true -> qQ C (aE ops j) = false -> i ∈ B j ∨ j ∈ B i) : Ds C ops B v ρ H := by
 intro i k hi hk hkd hg h1 h2
 have e : H k = H i := yD T hk (by omega) λ e he hee => by
  have hne : e ≠ i := λ h => by subst h; simp [bW, hkd] at hee
  rcases hf e i he hi hne hee (by simp [qQ, hkd]) with h | h
  ·exact ⟨λ _ => F.lt i hi e h, λ _ => h1 e he hee h⟩
  ·have := F.lt e he i h
   have := h2 e he hee h
   exact ⟨λ h => by omega, λ h => by omega⟩
 rw [e]
 obtain ⟨g, hg', hst, _, _⟩ := T.step i (zero_le _) hi
 rw [hg] at hg'; injection hg' with hg'; subst hg'
 obtain ⟨ob, hst, hob⟩ := hst rfl
 have h1 := nT hkd hst
 rw [h1] at hst
 exact ⟨ob, hst, hob⟩
theorem kP {listed : Array Bool} {i : Nat} (h : i ∈ Region.ready .any ops listed) : i < ops.size /\ listed.getD i true = false /\ ∀ d ∈ bD (aE ops i), listed.getD d false = true := by
 unfold Region.ready at h
 rw [mem_filter] at h
 obtain ⟨h1, h2⟩ := h
 have hi := mem_range.1 h1
 simp only [Bool.and_eq_true, Bool.not_eq_true'] at h2
 refine ⟨hi, h2.1, λ d hd => ?_⟩
 have h3 := h2.2
 rw [Array.getElem?_eq_getElem hi] at h3
 simp only [map_some, getD_some] at h3
 unfold bD aE at hd
 rw [Array.getD_eq_getD_getElem?, Array.getElem?_eq_getElem hi] at hd
 simp only [getD_some, mem_map, mem_filter] at hd
 obtain ⟨e, ⟨he1, he2⟩, rfl⟩ := hd
 have h4 := Array.all_eq_true'.1 h3 e (Array.mem_toList_iff.1 he1)
 simp only [he2, Bool.not_true, Bool.false_or] at h4
 exact h4
theorem Gl (F : RegFacts C ops B) {listed : Array Bool} (hs : listed.size = ops.size) (h : Region.ready .any ops listed = []) : ∀ i, i < ops.size -> listed.getD i false = true := by
 intro i
 induction i using Nat.strongRecOn with
 | _ i ih =>
  intro hi
  cases hl : listed.getD i false with
  | true => rfl
  | false =>
   exfalso
   have : i ∈ Region.ready .any ops listed := by
    unfold Region.ready
    rw [mem_filter]
    refine ⟨mem_range.2 hi, ?_⟩
    simp only [Bool.and_eq_true, Bool.not_eq_true']
    refine ⟨?_, ?_⟩
    ·rw [Array.getD_eq_getD_getElem?, Array.getElem?_eq_getElem (by omega)] at hl ⊢
     exact hl
    ·rw [Array.getElem?_eq_getElem hi]
     simp only [map_some, getD_some]
     refine Array.all_eq_true'.2 λ e he => ?_
     cases hb : Region.binds .any e with
     | false => rfl
     | true =>
      have hd : e.on ∈ bD (aE ops i) := by
       unfold bD aE
       rw [Array.getD_eq_getD_getElem?, Array.getElem?_eq_getElem hi]
       simp only [getD_some, mem_map, mem_filter]
       exact ⟨e, ⟨Array.mem_toList_iff.2 he, hb⟩, rfl⟩
      have hlt := F.dir i hi e.on hd
      simp [ih e.on hlt (by omega)]
   rw [h] at this
   cases this
theorem Dp {w : World} {Y : Nat -> Prop} {β : List BI} {Hh : List Blk} {a : Act} {ρ1 ρ2 : List (Nat × AV)} (h : ∀ t, aZ ρ1 t = aZ ρ2 t) (T : ju w Y β Hh a ρ1) : ju w Y β Hh a ρ2 := λ t => by rw [<- h t]; exact T t
theorem mg (hS : au C) (hd : ∀ i, i < ops.size -> ∀ d, (aE ops i).dst = some d -> d < N) (T : Trace C ops 0 st v ρ H) (F : RegFacts C ops B) (hstab : Ds C ops B v ρ H) {Q : Exit -> Act -> World -> Prop}
  (hQ : ∀ a' w', Rel C N X w0 β0 H0 ⟨ρ ops.size, H ops.size⟩ a' w' -> Q .normal a' w') : ∀ (fuel : Nat) (listed : Array Bool) (ρS : List (Nat × AV)) (HS : List Blk) (a : Act) (w : World), listed.size = ops.size ->
   Inv C ops B v ρ H (λ i => listed.getD i false = true) ρS HS -> (List.range ops.size).countP (λ i => !listed.getD i false) <= fuel -> Rel C N X w0 β0 H0 ⟨ρS, HS⟩ a w -> wpAny C.P .any ops Q fuel listed a w := by
 -- where all has been done
 have done : ∀ (listed : Array Bool) (ρS : List (Nat × AV)) (HS : List Blk) (a : Act) (w : World), Inv C ops B v ρ H (λ i => listed.getD i false = true) ρS HS -> (∀ i, i < ops.size -> listed.getD i false = true) -> Rel C N X w0 β0 H0 ⟨ρS, HS⟩ a w -> Q .normal a w := by
  intro listed ρS HS a w I hall hr
  obtain ⟨β, R, S0, Tr, G, hN, hdef⟩ := hr
  have hH : HS = H ops.size := I.heap ops.size (le_refl _) λ i hi _ => ⟨λ _ => hi, λ _ => hall i hi⟩
  subst hH
  refine hQ a w ⟨β, R, S0, Dp (λ t => ?_) Tr, G, hN, hdef⟩
  by_cases hex : ∃ j, j < ops.size /\ (aE ops j).dst = some t
  ·obtain ⟨j, hj, hdj⟩ := hex
   rw [I.val j hj (hall j hj) t hdj, C8 T F ops.size (le_refl _) j t hj hdj]
  ·rw [I.rest t λ k hk _ hdk => hex ⟨k, hk, hdk⟩, pn T ops.size (le_refl _) t λ k hk hdk => hex ⟨k, hk, hdk⟩]
 intro fuel
 induction fuel with
 | zero =>
  intro listed ρS HS a w hs I hc hr
  have hall : ∀ i, i < ops.size -> listed.getD i false = true := by
   intro i hi
   have h0 : (List.range ops.size).countP (λ i => !listed.getD i false) = 0 := by omega
   rw [List.countP_eq_zero] at h0
   have := h0 i (mem_range.2 hi)
   simpa using this
  refine ⟨?_, done listed ρS HS a w I hall hr⟩
  cases hrd : Region.ready .any ops listed with
  | nil => rfl
  | cons i r =>
   obtain ⟨h1, h2, _⟩ := kP (ops := ops) (listed := listed) (i := i) (by rw [hrd]; simp)
   have := hall i h1
   rw [Array.getD_eq_getD_getElem?, Array.getElem?_eq_getElem (by omega), getD_some] at h2 this
   rw [h2] at this
   cases this
 | succ fuel ih =>
  intro listed ρS HS a w hs I hc hr
  refine ⟨λ hnil => done listed ρS HS a w I (Gl F hs hnil) hr, λ i hi => ?_⟩
  obtain ⟨hlt, hun, hdir⟩ := kP hi
  have hL : ¬ (listed.getD i false = true) := by
   rw [Array.getD_eq_getD_getElem?, Array.getElem?_eq_getElem (by omega), getD_some] at hun ⊢
   rw [hun]
   simp
  have hlook := FV T F I hlt hL hdir
  obtain ⟨β, R, S0, Tr, G, hN, hdef⟩ := hr
  obtain ⟨g, hg, hst, hsk, _⟩ := T.step i (zero_le _) hlt
  have hg' : bg ops ρS (aE ops i) = some g := by rw [Br hlook]; exact hg
  have hw := dy Tr hg'
  have hget : ops[i]? = some (aE ops i) := by
   unfold aE
   rw [Array.getD_eq_getD_getElem?, Array.getElem?_eq_getElem hlt]
   rfl
  -- on to the next
  have next : ∀ (HS' : List Blk) (a' : Act) (w' : World), ((bW C (aE ops i) = true -> HS' = H (i + 1)) /\ (bW C (aE ops i) = false -> HS' = HS)) -> Rel C N X w0 β0 H0 ⟨b7 ρS (aE ops i).dst (v i), HS'⟩ a' w' ->
    wpAny C.P .any ops Q fuel (listed.setIfInBounds i true) a' w' := by
   intro HS' a' w' hH hr'
   have hset : ∀ j, (listed.setIfInBounds i true).getD j false = true ↔ (j = i ∨ listed.getD j false = true) := by
    intro j
    by_cases e : j = i
    ·subst e
     simp [Array.getD_eq_getD_getElem?, show j < listed.size by omega]
    ·simp [Array.getD_eq_getD_getElem?, Array.getElem?_setIfInBounds_ne (λ h => e h.symm), e]
   refine ih _ _ HS' a' w' (by simpa using hs) ?_ ?_ hr'
   ·have := Kl T F I hlt hL hdir hH
    refine ⟨λ j hj hl x hx => (hset x).2 (this.clo j hj ((hset j).1 hl) x hx), λ j hj hl => this.val j hj ((hset j).1 hl), λ t ht => this.rest t λ j hj hl => ht j hj ((hset j).2 hl), λ k hk hsep => this.heap k hk λ j hj he => ?_⟩
    rw [<- hsep j hj he]
    exact (hset j).symm
   ·have key : (List.range ops.size).countP (λ j => !(listed.setIfInBounds i true).getD j false) + 1 <= (List.range ops.size).countP (λ j => !listed.getD j false) := by
     have h1 : ∀ l : List Nat, i ∈ l -> l.countP (λ j => !(listed.setIfInBounds i true).getD j false) + 1 <= l.countP (λ j => !listed.getD j false) := by
      have h0 : ∀ l : List Nat, l.countP (λ j => !(listed.setIfInBounds i true).getD j false) <= l.countP (λ j => !listed.getD j false) := λ l => List.countP_mono_left λ j _ hj => by
       simp only [Bool.not_eq_true', Bool.eq_false_iff] at hj ⊢
       exact λ h => hj ((hset j).2 (.inr h))
      intro l hl
      induction l with
      | nil => cases hl
      | cons j r ihl =>
       rw [List.countP_cons, List.countP_cons]
       by_cases e : j = i
       ·subst e
        have e1 : (!(listed.setIfInBounds j true).getD j false) = false := by rw [(hset j).2 (.inl rfl)]; rfl
        have e2 : (!listed.getD j false) = true := by simpa using hL
        rw [e1, e2]
        have := h0 r
        simp only [if_true, Bool.false_eq_true, if_false]
        omega
       ·have := ihl (by simpa [Ne.symm e] using hl)
        have hj : (!(listed.setIfInBounds i true).getD j false) = !listed.getD j false := by
         have := hset j
         simp only [e, false_or] at this
         cases h1 : (listed.setIfInBounds i true).getD j false <;> cases h2 : listed.getD j false <;> simp_all
        rw [hj]
        omega
     exact h1 _ (mem_range.2 hlt)
    omega
  unfold wpOp
  rw [hget]
  simp only
  rw [hw]
  cases g with
  | true =>
   rw [if_pos rfl]
   obtain ⟨ob, hst, hob⟩ := hst rfl
   have hcg : aI C ⟨ρS, H i⟩ (aE ops i) = some (ob, v i, H (i + 1)) := by rw [rg (vV hlook)]; exact hst
   refine .inl ?_
   cases hk : bu C (aE ops i) with
   | pure =>
    obtain ⟨h1, h2⟩ := uz hk hcg
    exact cV hS R Tr G (h2 HS) hob λ u w' β' R' S hr => next HS _ _ ⟨λ h => by simp [bW, hk] at h, λ _ => rfl⟩ (dq S0 Tr G hN hdef R' S hr _ (hd i hlt))
   | read =>
    obtain ⟨k, hkn, hcut⟩ := JS F I.clo ops.size (le_refl _)
    have hH : HS = H k := I.heap k hkn hcut
    have hB := behind F I.clo hlt hdir
    obtain ⟨ob, hst', hob⟩ := hstab i k hlt hkn hk hg (λ e he hee h => (hcut e he hee).1 (hB e h)) (λ e he hee h => by
     rcases lt_or_ge e k with h1 | h1
     ·exact absurd (I.clo e he ((hcut e he hee).2 h1) i h) hL
     ·exact h1)
    have hcg : aI C ⟨ρS, HS⟩ (aE ops i) = some (ob, v i, HS) := by rw [hH, rg (vV hlook)]; exact hst'
    exact cV hS R Tr G hcg hob λ u w' β' R' S hr => next HS _ _ ⟨λ h => by simp [bW, hk] at h, λ _ => rfl⟩ (dq S0 Tr G hN hdef R' S hr _ (hd i hlt))
   | eff =>
    have hH : HS = H i := I.heap i (by omega) (sQ F I hlt hL hdir (by simp [bW, hk]))
    rw [<- hH] at hcg
    exact cV hS R Tr G hcg hob λ u w' β' R' S hr => next _ _ _ ⟨λ _ => rfl, λ h => by simp [bW, hk] at h⟩ (dq S0 Tr G hN hdef R' S hr _ (hd i hlt))
  | false =>
   rw [if_neg (by simp)]
   obtain ⟨hv, hHi⟩ := hsk rfl
   refine next HS _ _ ⟨λ h => ?_, λ _ => rfl⟩ ?_
   ·rw [hHi]
    exact I.heap i (by omega) (sQ F I hlt hL hdir h)
   ·rw [hv]
    exact dq S0 Tr G hN hdef R (StepR.refl _ _ _ R.len) kK _ (hd i hlt)
end
end
end Go.Proofs.YtfoipbjhaiimlaaGreatDoor