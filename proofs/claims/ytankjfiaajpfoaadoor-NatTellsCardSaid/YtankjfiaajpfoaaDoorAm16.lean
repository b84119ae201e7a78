/-
  One operation, whichever it is. Own work; no program in sight.
-/
import Derived.Test.YtankjfiaajpfoaaDoorAm15
namespace Go.Proofs.YtankjfiaajpfoaaDoor
open Go.RowKit

section
variable {C : Ctx} {w w' : World} {X Y : Nat → Prop} {β : List BI} {H : List Blk}

theorem rep_deepArg {v : Value} {av : AV} (hd : av.deepArg = true) (h : Rep w X β H v av) : RepD w X v av := by
  cases av with
  | agg cells =>
    obtain ⟨cs, val, rfl, hl, hm, hv⟩ := rep_agg h
    refine .agg cs cells val hl hm fun j u hu => rep_deep (List.all_eq_true.1 hd u (List.mem_of_getElem? hu)) (hv j u hu)
  | fn f cells =>
    obtain ⟨cs, val, rfl, hl, hm, hv⟩ := rep_fn h
    refine .fn f cs cells val hl hm fun j u hu => rep_deep (List.all_eq_true.1 hd u (List.mem_of_getElem? hu)) (hv j u hu)
  | own => cases hd
  | ptr => cases hd
  | tup => cases hd
  | _ => exact rep_deep rfl h

theorem view_isDeep {v : AV} (h : v.isDeep = true) (d : Nat) : view H d v = v := by
  cases d with
  | zero => simp [view, h]
  | succ d => cases v <;> first | rfl | cases h

theorem map_view_deep (d : Nat) : ∀ (l : List AV), l.all AV.isDeep = true → l.map (view H d) = l
  | [], _ => rfl
  | v :: r, h => by
    simp only [List.all_cons, Bool.and_eq_true] at h
    simp [view_isDeep h.1, map_view_deep d r h.2]

theorem view_deepArg {v : AV} (h : v.deepArg = true) (d : Nat) : view H (d + 1) v = v := by
  cases v with
  | agg cs => simp only [view, map_view_deep d cs h]
  | fn f cs => simp only [view, map_view_deep d cs h]
  | own => cases h
  | ptr => cases h
  | tup => cases h
  | _ => rfl

theorem flat1_any {v : Value} {r : AV} (hf : r.flat1 = true) (h : RepD w X v r) : RepD w Y v r := by
  cases r with
  | bool b => cases h; exact .bool _
  | int k n => cases h; exact .int _ _
  | str s => cases h; exact .str _
  | nilptr => cases h; exact .nilptr
  | _ => cases hf

theorem flatAgg_any {v : Value} {cs : List AV} (hf : cs.all AV.flat1 = true) (h : RepD w X v (.agg cs)) : RepD w Y v (.agg cs) := by
  cases h with
  | agg as _ val hl hm hv => exact .agg as cs val hl hm fun j u hu => flat1_any (List.all_eq_true.1 hf u (List.mem_of_getElem? hu)) (hv j u hu)

theorem flat_any {v : Value} {r : AV} (hf : r.isFlat = true) (h : RepD w X v r) : RepD w Y v r := by
  cases r with
  | agg cs => exact flatAgg_any hf h
  | tup cs =>
    cases h with
    | tup as _ val hl hm hv =>
      refine .tup as cs val hl hm fun j u hu => ?_
      have h1 := List.all_eq_true.1 hf u (List.mem_of_getElem? hu)
      have h2 := hv j u hu
      cases u with
      | agg ds => exact flatAgg_any h1 h2
      | _ => exact flat1_any h1 h2
  | bool b => exact flat1_any rfl h
  | int k n => exact flat1_any rfl h
  | str s => exact flat1_any rfl h
  | nilptr => exact flat1_any rfl h
  | _ => cases hf

/-- The callee and its arguments. -/
theorem target_sound {a : Act} {ρ : List (Nat × AV)} (T : TRel w X β H a ρ) (G : GRel C w X) {c : Call} {f : FuncId} {avs : List AV} (h : target C ρ c = some (f, avs)) :
    ∃ args : Array Value, (∀ (ty : TypeId), (do let d ← resolve a.eval c ty; invoke d.target d.args : Sem Next).run C.P w = (callFunc f args).run C.P w) ∧ args.size = avs.length ∧ ∀ (j : Nat) (u : AV), avs[j]? = some u → ∃ v, args[j]? = some v ∧ Rep w X β H v u := by
  unfold target at h
  split at h
  · rename_i op hop
    have hx := aev_sound T G 0 op
    split at h
    · rename_i g cap hg
      injection h with h; injection h with e1 e2; subst e1 e2
      rw [hg] at hx
      obtain ⟨cs, val, h1, hl, hm, hv⟩ := rep_fn hx
      obtain ⟨callee, cargs, ctypes⟩ := c
      simp only at hop
      subst hop
      refine ⟨cargs.map a.eval ++ cs, fun ty => ?_, by simp [argAVs_length, hl], fun j u hu => ?_⟩
      · simp [resolve, h1, Deferred.ofValue, invoke]
      · rcases Nat.lt_or_ge j cargs.size with hj | hj
        · rw [List.getElem?_append_left (by rw [argAVs_length]; simpa using hj)] at hu
          obtain ⟨x, k1, k2⟩ := argAVs_sound T G _ _ j u hu
          refine ⟨a.eval x, ?_, k2⟩
          rw [Array.getElem?_append_left (by simpa using hj)]
          simp only [Array.getElem?_toList] at k1
          simp [k1]
        · rw [List.getElem?_append_right (by rw [argAVs_length]; simpa using hj), argAVs_length] at hu
          simp only [Array.length_toList] at hu
          refine ⟨val (j - cargs.size), ?_, hv _ u hu⟩
          rw [Array.getElem?_append_right (by simpa using hj)]
          simp only [Array.size_map]
          exact hm _ (List.getElem?_eq_some_iff.1 hu).1
    · cases h
  · cases h

theorem run_callFunc {P : Program} {f : FuncId} {fn : Func} (hf : P.funcs[f]? = some fn) (hn : fn.name ≠ "runtime.NumGoroutine") (hb : fn.body.isSome = true) (args : Array Value) (w : World) : (callFunc f args).run P w = .ok (.enter f args) w := by
  have h3 : fn.body ≠ none := by cases h : fn.body <;> simp_all
  simp [callFunc, run_program, hf, hn, h3]

/-- What stands behind one operation. -/
def After (X : Nat → Prop) (w : World) (β : List BI) (H : List Blk) (r : AV) (H' : List Blk) (o : Oper) (a : Act) (K : Act → World → Prop) : Prop :=
  ∀ (u : Value) (w' : World) (β' : List BI), HRel w' X β' H' → StepR w β H w' β' H' → Rep w' (Mu X β' H') β' H' u r → K (a.put o.dst u) w'

theorem wp_value {o : Oper} {a : Act} {K : Act → World → Prop} {Q : Exit → Act → World → Prop} {u : Value} (h : (execOp a.eval o).run C.P w = .ok (.value u) w') (hK : K (a.put o.dst u) w') : o.wp C.P a w K Q := by
  unfold Oper.wp
  rw [h]
  exact hK

theorem wp_enter {o : Oper} {a : Act} {K : Act → World → Prop} {Q : Exit → Act → World → Prop} {f : FuncId} {args : Array Value} (h : (execOp a.eval o).run C.P w = .ok (.enter f args) w)
    (hK : Calls C.P f args w fun e w' => ∃ v, e = .returned v ∧ K (a.put o.dst v) w') : o.wp C.P a w K Q := by
  unfold Oper.wp
  rw [h]
  exact hK.mono fun e w' ⟨v, he, hk⟩ => by subst he; exact hk

theorem astep_sound (hS : SigOK C) {a : Act} {st : ASt} (R : HRel w X β st.H) (T : TRel w (Mu X β st.H) β st.H a st.ρ) (G : GRel C w (Mu X β st.H)) {o : Oper} {ob : Prop} {r : AV} {H' : List Blk} (h : astep C st o = some (ob, r, H')) (hob : ob)
    {K : Act → World → Prop} {Q : Exit → Act → World → Prop} (hK : After X w β st.H r H' o a K) : o.wp C.P a w K Q := by
  have quiet : ∀ {u : Value} {w' : World}, (execOp a.eval o).run C.P w = .ok (.value u) w' → Keeps (fun _ => False) w w' → H' = st.H → Rep w' (Mu X β st.H) β st.H u r → o.wp C.P a w K Q := by
    intro u w' h1 h2 h3 h4
    subst h3
    exact wp_value h1 (hK u w' β (R.quiet h2) (StepR.quiet h2 R.len) h4)
  have E := fun t x => aev_sound (C := C) T G t x
  unfold astep at h
  split at h
  · rename_i hkd
    clear hkd
    split at h
    · rename_i ob' v hp
      injection h with h; injection h with e1 e2; injection e2 with e2 e3; subst e1 e2
      obtain ⟨u, w', h1, h2, h3⟩ := apure_sound T G R.mu_lt hp hob
      exact quiet h1 h2 e3.symm h3
    · cases h
  · rename_i hkd
    clear hkd
    split at h
    · rename_i ob' v hr
      injection h with h; injection h with e1 e2; injection e2 with e2 e3; subst e1 e2
      obtain ⟨dst, op, type, pos, after, guard⟩ := o
      unfold aread at hr
      simp only at hr
      split at hr
      · rename_i t p
        obtain ⟨u, h1, h2⟩ := aload_sound R hr hob (E _ p)
        exact quiet (w' := w) (by simp only [execOp, Sem.run_bind, h1, Result.andThen_ok, Sem.run_pure]) (Keeps.refl _ _) e3.symm h2
      · rename_i t len parts
        split at hr
        · rename_i hd
          cases he : elT C.P t with
          | none => simp [abuildSlice, he] at hr
          | some e =>
            obtain ⟨u, w', h1, h2, h3⟩ := abuildSlice_sound (w := w) (Y := Mu X β st.H) hr (vparts := parts.map fun (i, x) => (i, a.eval x)) (by simp [elParts, he]) (fun j k u hj => by
              have hmem := List.mem_of_getElem? hj
              have hd' := List.all_eq_true.1 hd _ hmem
              simp only [elParts, he, List.getElem?_map, Option.map_eq_some_iff] at hj
              obtain ⟨⟨k', x⟩, hj1, hj2⟩ := hj
              injection hj2 with hj2 hj3
              simp only at hj2 hj3
              subst hj2 hj3
              simp only [Array.getElem?_toList] at hj1
              exact ⟨a.eval x, by simp [hj1], rep_deepArg hd' (E _ x)⟩) R.mu_lt
            exact quiet (by simp only [execOp, Sem.run_bind, h1, Result.andThen_ok, Sem.run_pure]) h2 e3.symm (.deep h3)
        · cases hr
      · rename_i src dst' x
        obtain ⟨u, h1, h2⟩ := abytesStr_sound R hr hob (E _ x)
        exact quiet (w' := w) (by simp only [execOp, Sem.run_bind, h1, Result.andThen_ok, Sem.run_pure]) (Keeps.refl _ _) e3.symm h2
      · rename_i c
        split at hr
        · rename_i f avs htg
          split at hr
          · rename_i p hp
            have hok := hS f
            rw [hp] at hok
            obtain ⟨hok, fn, hf1, hf2, hf3⟩ := hok
            obtain ⟨args, hrun, hsz, harg⟩ := target_sound T G htg
            unfold acallPure at hr
            split at hr
            · rename_i ob1 r1 hpr
              split at hr
              · rename_i hfd
                injection hr with hr; injection hr with e1 e2; subst e1 e2
                have hrun' : (execOp a.eval { dst, op := .call c, type, pos, after, guard : Oper }).run C.P w = .ok (.enter f args) w := by
                  simp only [execOp]
                  rw [hrun type, run_callFunc hf1 hf2 hf3]
                refine wp_enter hrun' ?_
                simp only [Bool.or_eq_true] at hfd
                by_cases hda : avs.all AV.deepArg = true
                · have := hok w (Mu X β st.H) args (avs.map (view st.H 6)) ob1 r1 R.mu_lt G (by simp [hsz]) (fun j u hu => by
                    rw [List.getElem?_map] at hu
                    simp only [Option.map_eq_some_iff] at hu
                    obtain ⟨av, hav, rfl⟩ := hu
                    have hdd := List.all_eq_true.1 hda av (List.mem_of_getElem? hav)
                    obtain ⟨v, k1, k2⟩ := harg j av hav
                    rw [view_deepArg hdd]
                    exact ⟨v, k1, rep_deepArg hdd k2⟩) hpr hob
                  refine this.mono fun e w' ⟨v, he, hk, hv⟩ => ⟨v, he, ?_⟩
                  subst e3
                  exact hK v w' β (R.quiet hk) (StepR.quiet hk R.len) (.deep hv)
                · have hfl := hfd.resolve_right hda
                  have := hok w X args (avs.map (view st.H 6)) ob1 r1 R.base (fun g => (G g).mono fun b _ hb => .inl hb) (by simp [hsz]) (fun j u hu => by
                    rw [List.getElem?_map] at hu
                    simp only [Option.map_eq_some_iff] at hu
                    obtain ⟨av, hav, rfl⟩ := hu
                    obtain ⟨v, k1, k2⟩ := harg j av hav
                    exact ⟨v, k1, (view_sound R (fun _ => True) 6 k2 (fun _ _ => trivial)).mono fun b _ hb => .inl hb⟩) hpr hob
                  refine this.mono fun e w' ⟨v, he, hk, hv⟩ => ⟨v, he, ?_⟩
                  subst e3
                  exact hK v w' β (R.quiet hk) (StepR.quiet hk R.len) (.deep (flat_any hfl hv))
              · cases hr
            · cases hr
          · cases hr
        · cases hr
      · cases hr
    · cases h
  · rename_i hkd
    clear hkd
    obtain ⟨dst, op, type, pos, after, guard⟩ := o
    unfold aeff at h
    simp only at h
    split at h
    · rename_i t
      cases hz : zT C.P t with
      | none => rw [hz] at h; simp [anew] at h
      | some z =>
        rw [hz] at h
        obtain ⟨i, zv, z1, z2, z3, z4, z5, z6, z7⟩ := zT_sound hz
        obtain ⟨β', h1, h2, h3⟩ := anew_sound R h (zT_crep z6 z7)
        refine wp_value (u := .pointer (some ⟨w.heap.size, 0, none⟩)) (w' := w.alloc (.cells zv.cells t)) ?_ (hK _ _ β' h1 h2 h3)
        simp [execOp, Instr.alloc, zeroValue, typeInfo, z1, z2, newVar, newRow]
    · rename_i t x
      cases hc : cellsOf C t (aev C st.ρ t x) with
      | none => rw [hc] at h; simp [anew] at h
      | some cs =>
        rw [hc] at h
        obtain ⟨c1, _⟩ := cellsOf_sound hc (E t x)
        obtain ⟨β', h1, h2, h3⟩ := anew_sound R h c1
        refine wp_value (u := .pointer (some ⟨w.heap.size, 0, none⟩)) (w' := w.alloc (.cells (a.eval x).cells t)) ?_ (hK _ _ β' h1 h2 h3)
        simp [execOp, Instr.box, newVar, newRow]
    · rename_i t p x
      obtain ⟨w', β', h1, h2, h3, rfl⟩ := astore_sound R h hob (E 0 p) (E t x)
      unfold Oper.wp
      simp only [execOp, Sem.run_bind, h1, Result.andThen_ok, Sem.run_pure]
      exact hK undef w' β' h2 h3 (.tup #[] [] (fun _ => undef) rfl (fun j hj => by simp at hj) (fun j v hj => by simp at hj))
    · rename_i t len parts
      split at h
      · rename_i ob' v hb
        injection h with h; injection h with e1 e2; injection e2 with e2 e3; subst e1 e2 e3
        cases he : elT C.P t with
        | none => simp [abuildSlice, he] at hb
        | some e =>
          have L : ∀ l, l ∈ (elParts C st.ρ t parts.toList).flatMap (fun p => reach st.H 6 p.2) ↔ l ∈ (elParts C st.ρ t parts.toList).flatMap (fun p => reach st.H 6 p.2) := fun _ => Iff.rfl
          generalize hls : (elParts C st.ρ t parts.toList).flatMap (fun p => reach st.H 6 p.2) = ls at *
          obtain ⟨u, w', h1, h2, h3⟩ := abuildSlice_sound (w := w) (Y := XL X β st.H (fun l => l ∈ ls)) hb (vparts := parts.map fun (i, x) => (i, a.eval x)) (by simp [elParts, he]) (fun j k u hj => by
            rw [List.getElem?_map] at hj
            simp only [Option.map_eq_some_iff] at hj
            obtain ⟨⟨k0, av⟩, hj0, hj2⟩ := hj
            have hmem := List.mem_of_getElem? hj0
            injection hj2 with hj2 hj3
            simp only at hj2 hj3
            subst hj2 hj3
            have hj1 := hj0
            simp only [elParts, he, List.getElem?_map, Option.map_eq_some_iff] at hj1
            obtain ⟨⟨k', x⟩, hj1, hj2⟩ := hj1
            injection hj2 with hj2 hj3
            simp only at hj2 hj3
            subst hj2 hj3
            simp only [Array.getElem?_toList] at hj1
            refine ⟨a.eval x, by simp [hj1], view_sound R _ 6 (E _ x) fun l hl => ?_⟩
            rw [← hls]
            exact List.mem_flatMap.2 ⟨_, hmem, hl⟩) (fun b hb => R.mu_lt b (XL_mu hb))
          have R' := frz_hrel R ls
          refine wp_value (u := u) (w' := w') (by simp only [execOp, Sem.run_bind, h1, Result.andThen_ok, Sem.run_pure]) (hK u w' β (R'.quiet h2) ((frz_step R ls).trans (StepR.quiet h2 R'.len)) (.deep (h3.mono fun b _ hb => XL_frz hb)))
      · cases h
    · rename_i t l c
      obtain ⟨u, w', β', h1, h2, h3, h4⟩ := amake_sound R h hob (E 0 l) (E 0 c)
      exact wp_value (by simp only [execOp, Sem.run_bind, h1, Result.andThen_ok, Sem.run_pure]) (hK u w' β' h2 h3 h4)
    · rename_i c
      split at h
      · obtain ⟨callee, cargs, ctypes⟩ := c
        rename_i hcal
        simp only at hcal h
        subst hcal
        split at h
        · rename_i s x t t' hargs htys
          split at h
          · rename_i htt
            subst htt
            obtain rfl : cargs = #[s, x] := by rw [← Array.toList_inj, hargs]
            obtain rfl : ctypes = #[t, t] := by rw [← Array.toList_inj, htys]
            obtain ⟨u, w', β', h1, h2, h3, h4⟩ := aappend_sound R h hob (E t s) (E t x) type
            refine wp_value (u := u) (w' := w') ?_ (hK u w' β' h2 h3 h4)
            simp only [execOp, resolve, invoke, builtin, Sem.run_bind, Sem.run_pure, Result.andThen_ok, List.map_toArray, List.map_cons, List.map_nil, h1]
          · cases h
        · cases h
      · split at h
        · rename_i f avs htg
          obtain ⟨args, hrun, hsz, harg⟩ := target_sound T G htg
          have hok := hS f
          split at h
          · rename_i p hp
            rw [hp] at hok
            obtain ⟨hok, fn, hf1, hf2, hf3⟩ := hok
            have hrun' : (execOp a.eval { dst, op := .call c, type, pos, after, guard : Oper }).run C.P w = .ok (.enter f args) w := by
              simp only [execOp]
              rw [hrun type, run_callFunc hf1 hf2 hf3]
            split at h
            · rename_i ob1 r1 hr
              injection h with h; injection h with e1 e2; injection e2 with e2 e3; subst e1 e2
              unfold acallPure at hr
              split at hr
              · rename_i ob1 r1 hpr
                split at hr
                · rename_i hfd
                  injection hr with hr; injection hr with e1 e2; subst e1 e2
                  refine wp_enter hrun' ?_
                  simp only [Bool.or_eq_true] at hfd
                  by_cases hda : avs.all AV.deepArg = true
                  · have := hok w (Mu X β st.H) args (avs.map (view st.H 6)) ob1 r1 R.mu_lt G (by simp [hsz]) (fun j u hu => by
                      rw [List.getElem?_map] at hu
                      simp only [Option.map_eq_some_iff] at hu
                      obtain ⟨av, hav, rfl⟩ := hu
                      have hdd := List.all_eq_true.1 hda av (List.mem_of_getElem? hav)
                      obtain ⟨v, k1, k2⟩ := harg j av hav
                      rw [view_deepArg hdd]
                      exact ⟨v, k1, rep_deepArg hdd k2⟩) hpr hob
                    refine this.mono fun e w' ⟨v, he, hk, hv⟩ => ⟨v, he, ?_⟩
                    subst e3
                    exact hK v w' β (R.quiet hk) (StepR.quiet hk R.len) (.deep hv)
                  · have hfl := hfd.resolve_right hda
                    have := hok w X args (avs.map (view st.H 6)) ob1 r1 R.base (fun g => (G g).mono fun b _ hb => .inl hb) (by simp [hsz]) (fun j u hu => by
                      rw [List.getElem?_map] at hu
                      simp only [Option.map_eq_some_iff] at hu
                      obtain ⟨av, hav, rfl⟩ := hu
                      obtain ⟨v, k1, k2⟩ := harg j av hav
                      exact ⟨v, k1, (view_sound R (fun _ => True) 6 k2 (fun _ _ => trivial)).mono fun b _ hb => .inl hb⟩) hpr hob
                    refine this.mono fun e w' ⟨v, he, hk, hv⟩ => ⟨v, he, ?_⟩
                    subst e3
                    exact hK v w' β (R.quiet hk) (StepR.quiet hk R.len) (.deep (flat_any hfl hv))
                · cases hr
              · cases hr
            · cases h
          · rename_i p hp
            rw [hp] at hok
            obtain ⟨hok, fn, hf1, hf2, hf3⟩ := hok
            have hrun' : (execOp a.eval { dst, op := .call c, type, pos, after, guard : Oper }).run C.P w = .ok (.enter f args) w := by
              simp only [execOp]
              rw [hrun type, run_callFunc hf1 hf2 hf3]
            split at h
            · rename_i ob1 r1 hpr
              injection h with h; injection h with e1 e2; injection e2 with e2 e3; subst e1 e2 e3
              refine wp_enter hrun' ?_
              have := hok w (XL X β st.H (fun l => l ∈ avs.flatMap (reach st.H 6))) args (avs.map (view st.H 6)) ob1 r1 (fun b hb => R.mu_lt b (XL_mu hb)) (fun g => (G g).mono fun b _ hb => XL_mu hb) (by simp [hsz]) (fun j u hu => by
                rw [List.getElem?_map] at hu
                simp only [Option.map_eq_some_iff] at hu
                obtain ⟨av, hav, rfl⟩ := hu
                obtain ⟨v, k1, k2⟩ := harg j av hav
                exact ⟨v, k1, view_sound R _ 6 k2 fun l hl => List.mem_flatMap.2 ⟨av, List.mem_of_getElem? hav, hl⟩⟩) hpr hob
              have R' := frz_hrel R (avs.flatMap (reach st.H 6))
              refine this.mono fun e w' ⟨v, he, hk, hv⟩ => ⟨v, he, ?_⟩
              exact hK v w' β (R'.quiet hk) ((frz_step R _).trans (StepR.quiet hk R'.len)) (.deep (hv.mono fun b _ hb => XL_frz hb))
            · cases h
          · rename_i g hg
            rw [hg] at hok
            obtain ⟨hok, fn, hf1, hf2, hf3⟩ := hok
            have hrun' : (execOp a.eval { dst, op := .call c, type, pos, after, guard : Oper }).run C.P w = .ok (.enter f args) w := by
              simp only [execOp]
              rw [hrun type, run_callFunc hf1 hf2 hf3]
            refine wp_enter hrun' ?_
            refine (hok w X β st.H args avs ob r H' R G hsz harg h hob).mono fun e w' ⟨v, β', he, h1, h2, h3⟩ => ⟨v, he, hK v w' β' h1 h2 h3⟩
          · cases h
        · cases h
    · cases h

end
end Go.Proofs.YtankjfiaajpfoaaDoor
