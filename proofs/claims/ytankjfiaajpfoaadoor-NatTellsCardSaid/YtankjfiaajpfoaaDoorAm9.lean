/-
  Soundness of the operations that look at no block, fifth part. Own work; no program in sight.
-/
import Derived.Test.YtankjfiaajpfoaaDoorAm8
namespace Go.Proofs.YtankjfiaajpfoaaDoor
open Go.RowKit

section
variable {C : Ctx} {w : World} {X : Nat → Prop} {β : List BI} {H : List Blk}

theorem run_sizes {P : Program} : ∀ (fs : List Field), (∀ f ∈ fs, (P.info? f.type).isSome = true) → ∀ w : World,
    ((fs.mapM fun f => do pure (f.offset, ← sizeOf f.type) : Sem (List (Nat × Nat)))).run P w = .ok (fs.map fun f => (f.offset, szT P f.type)) w
  | [], _, w => by simp [List.mapM_nil]
  | f :: fs, h, w => by
    have ih := run_sizes fs (fun g hg => h g (List.mem_cons_of_mem _ hg)) w
    have h1 := h f (by simp)
    cases hi : P.info? f.type with
    | none => rw [hi] at h1; cases h1
    | some i =>
      have h2 : (sizeOf f.type).run P w = .ok (szT P f.type) w := by simp [sizeOf, typeInfo, hi, szT]
      simp only [List.mapM_cons, Sem.run_bind, h2, Result.andThen_ok, Sem.run_pure, ih, List.map_cons]

theorem abuild_sound {a : Act} {ρ : List (Nat × AV)} (T : TRel w X β H a ρ) (G : GRel C w X) {t : TypeId} {parts : Array (Nat × Operand)} {ob : Prop} {r : AV} (h : abuild C ρ t parts.toList = some (ob, r)) :
    ∃ u, (Instr.build t (parts.map fun (i, x) => (i, a.eval x))).run C.P w = .ok u w ∧ Rep w X β H u r := by
  unfold abuild at h
  split at h
  · rename_i z hz
    obtain ⟨i, zv, h1, h2, h3, h4, h5, h6, h7⟩ := zT_sound hz
    have hzr : (zeroValue t).run C.P w = .ok zv w := by simp [zeroValue, typeInfo, h1, h2]
    split at h
    · rename_i hna
      split at h
      · rename_i cs hcs
        split at h
        · rename_i hinfo
          injection h with h; injection h with e1 e2; subst e1 e2
          unfold infoAll at hinfo
          split at hinfo
          · rename_i fs hfs
            have hpl : ∀ k off ty, fldT C.P t k = some (off, ty) → ((fs.toList.map fun f => (f.offset, szT C.P f.type)).toArray)[k]? = some (off, szT C.P ty) := by
              intro k off ty hk
              obtain ⟨fs', f, e1, e2, rfl, rfl⟩ := fldT_eq hk
              rw [hfs] at e1
              injection e1 with e1; injection e1 with e1
              subst e1
              simp [e2]
            obtain ⟨cs', k1, k2⟩ := abuildGo_sound (C := C) (w := w) (X := X) (β := β) (H := H) _ _ hpl _ ((parts.map fun (i, x) => (i, a.eval x)).toList) _ _ zv.cells hcs (zT_crep h6 h7) (by simp) (fun j k u hj => by
              simp only [List.getElem?_map, Option.map_eq_some_iff] at hj
              obtain ⟨⟨k', x⟩, hj1, hj2⟩ := hj
              injection hj2 with hj2 hj3
              simp only at hj2 hj3
              subst hj2 hj3
              refine ⟨a.eval x, ?_, aev_sound T G _ x⟩
              simp only [Array.toList_map, List.getElem?_map, hj1, Option.map_some])
            refine ⟨.agg cs', ?_, k2.agg⟩
            have hs := run_sizes (P := C.P) fs.toList (fun f hf => List.all_eq_true.1 hinfo f hf) w
            simp only [Instr.build, Sem.run_bind, hzr, Result.andThen_ok, run_underlying hfs, Array.mapM_eq_mapM_toList, map_eq_pure_bind, bind_assoc, pure_bind, hs]
            simp only [k1, Sem.run_pure]
          · cases hinfo
        · cases h
      · cases h
    · rename_i n e hna
      split at h
      · cases h
      · rename_i hsz
        split at h
        · rename_i cs hcs
          injection h with h; injection h with e1 e2; subst e1 e2
          obtain ⟨cs', k1, k2⟩ := abuildGo_sound (C := C) (w := w) (X := X) (β := β) (H := H) (fun k => some (k * szT C.P e, e)) (fun k => some (k * szT C.P e, szT C.P e)) (fun k off ty hk => by
            injection hk with hk; injection hk with hk1 hk2; subst hk1 hk2; rfl) _ ((parts.map fun (i, x) => (i, a.eval x)).toList) _ _ zv.cells hcs (zT_crep h6 h7) (by simp) (fun j k u hj => by
              simp only [List.getElem?_map, Option.map_eq_some_iff] at hj
              obtain ⟨⟨k', x⟩, hj1, hj2⟩ := hj
              injection hj2 with hj2 hj3
              simp only at hj2 hj3
              subst hj2 hj3
              refine ⟨a.eval x, ?_, aev_sound T G _ x⟩
              simp only [Array.toList_map, List.getElem?_map, hj1, Option.map_some])
          refine ⟨.agg cs', ?_, k2.agg⟩
          simp only [Instr.build, Sem.run_bind, hzr, Result.andThen_ok, run_underlying (arrT_eq hna), run_sizeOf (Nat.pos_of_ne_zero hsz)]
          simp only [k1, Sem.run_pure]
        · cases h
  · cases h

theorem alow_sound {lo : Option AV} {l : Int} (h : alow lo = some l) {vl : Option Value} (hn : lo = none → vl = none) (hs : ∀ u, lo = some u → ∃ v, vl = some v ∧ Rep w X β H v u) :
    (vl = none ∧ l = 0) ∨ ∃ k, vl = some (.int k l) := by
  unfold alow at h
  split at h
  · injection h with h; subst h; exact .inl ⟨hn rfl, rfl⟩
  · injection h with h; subst h
    obtain ⟨v, rfl, hv⟩ := hs _ rfl
    obtain rfl := rep_int hv
    exact .inr ⟨_, rfl⟩
  · cases h

theorem ahigh_sound {hi : Option AV} {len : Nat} {l : Int} (h : ahigh len hi = some l) {vl : Option Value} (hn : hi = none → vl = none) (hs : ∀ u, hi = some u → ∃ v, vl = some v ∧ Rep w X β H v u) :
    (vl = none ∧ hi = none ∧ l = len) ∨ ∃ k, vl = some (.int k l) ∧ hi.isSome = true := by
  unfold ahigh at h
  split at h
  · injection h with h; subst h; exact .inl ⟨hn rfl, rfl, rfl⟩
  · injection h with h; subst h
    obtain ⟨v, rfl, hv⟩ := hs _ rfl
    obtain rfl := rep_int hv
    exact .inr ⟨_, rfl, rfl⟩
  · cases h

theorem run_sliceBound {P : Program} {k : IntKind} {i : Int} {y : Nat} (h0 : 0 ≤ i) (h1 : i ≤ y) (code : BoundsCode) (w : World) : (Instr.sliceBound (.int k i) y code).run P w = .ok i.toNat w := by
  simp [Instr.sliceBound, asIntOf, h0, h1]

theorem repD_sub {a : Option Addr} {n cap sz : Nat} {full full' : Bool} {rows : List (List AV)} (h : RepD w X (.slice a n cap) (.slice sz full rows)) {l h' m : Nat} (h1 : l ≤ h') (h2 : h' ≤ rows.length) (h3 : h' ≤ m) (h4 : m ≤ cap)
    (hf : full' = true → m = h') : RepD w X (.slice (if m = l then a else a.map (·.add (l * sz))) (h' - l) (m - l)) (.slice sz full' ((rows.take h').drop l)) := by
  cases h with
  | slice _ _ _ _ _ _ val hn k1 k2 k3 hr hm hv =>
    have hlen : ((rows.take h').drop l).length = h' - l := by simp; omega
    have hget : ∀ i : Nat, ((rows.take h').drop l)[i]? = if l + i < h' then rows[l + i]? else none := by
      intro i
      rw [List.getElem?_drop, List.getElem?_take]
    refine .slice sz full' _ _ _ _ (fun i j => val (l + i) j) hlen.symm (by rw [hlen]; omega) (by omega) (fun hh => by rw [hlen, hf hh]) (fun r hr' => hr r (List.mem_of_mem_take (List.mem_of_mem_drop hr'))) (fun h0 => ?_) (fun i j r v hi hj => ?_)
    · rw [hlen] at h0
      obtain ⟨b, off, rfl, hb, hX, hc⟩ := hm (by omega)
      refine ⟨b, off + l * sz, ?_, hb, hX, fun i j hi hj => ?_⟩
      · rw [if_neg (by omega)]
        simp [add_eq]
      · rw [hlen] at hi
        have := hc (l + i) j (by omega) hj
        rw [Nat.add_mul, ← Nat.add_assoc] at this
        exact this
    · rw [hget] at hi
      split at hi
      · exact hv _ _ _ _ hi hj
      · cases hi

theorem aslice_sound {t : TypeId} {x : AV} {lo hi mx : Option AV} {ob : Prop} {r : AV} (h : aslice C t x lo hi mx = some (ob, r)) (hob : ob) {vx : Value} (hx : Rep w X β H vx x) {vlo vhi vmx : Option Value}
    (hlo : lo = none → vlo = none) (hlo' : ∀ u, lo = some u → ∃ v, vlo = some v ∧ Rep w X β H v u) (hhi : hi = none → vhi = none) (hhi' : ∀ u, hi = some u → ∃ v, vhi = some v ∧ Rep w X β H v u)
    (hmx : mx = none → vmx = none) (hmx' : ∀ u, mx = some u → ∃ v, vmx = some v ∧ Rep w X β H v u) : ∃ u, (Instr.sliceAt t vx vlo vhi vmx).run C.P w = .ok u w ∧ Rep w X β H u r := by
  unfold aslice at h
  split at h
  · rename_i s
    obtain rfl := rep_str hx
    split at h
    · rename_i ht
      have ht := strT_eq ht
      split at h
      · rename_i l h' hl hh
        injection h with h; injection h with e1 e2; subst e1 e2
        obtain ⟨o1, o2, o3⟩ := hob
        obtain rfl := hmx rfl
        refine ⟨.string (s.extract l.toNat h'.toNat), ?_, .deep (.str _)⟩
        rcases ahigh_sound hh hhi hhi' with ⟨rfl, _, rfl⟩ | ⟨k1, rfl, _⟩ <;> rcases alow_sound hl hlo hlo' with ⟨rfl, rfl⟩ | ⟨k2, rfl⟩
        · simp [Instr.sliceAt, run_underlying ht, Instr.slice, Instr.sliceBounds]
        · have := run_sliceBound (P := C.P) (k := k2) o1 o2 .sliceB w
          simp [Instr.sliceAt, run_underlying ht, Instr.slice, Instr.sliceBounds, this]
        · have := run_sliceBound (P := C.P) (k := k1) (show 0 ≤ h' by omega) o3 .sliceAlen w
          simp [Instr.sliceAt, run_underlying ht, Instr.slice, Instr.sliceBounds, this]
        · have h1 := run_sliceBound (P := C.P) (k := k1) (show 0 ≤ h' by omega) o3 .sliceAlen w
          have h2 := run_sliceBound (P := C.P) (k := k2) (y := h'.toNat) o1 (by omega) .sliceB w
          simp [Instr.sliceAt, run_underlying ht, Instr.slice, Instr.sliceBounds, h1, h2]
      · cases h
    · cases h
  · rename_i sz full rows
    split at h
    · rename_i e he
      have hu := elT_eq he
      split at h
      · rename_i hsz
        obtain ⟨hsz, hz⟩ := hsz
        have hso := run_sizeOf (P := C.P) (t := e) (by omega) w
        rw [← hsz] at hso
        have hd := rep_slice hx
        obtain ⟨a, cap, val, rfl, k1, k2, k3, hr, hm, hv⟩ := repD_slice hd
        split at h
        · rename_i l h' hl hh
          injection h with h; injection h with e1 e2; subst e1 e2
          obtain ⟨o1, o2, o3⟩ := hob
          obtain rfl := hmx rfl
          have main := fun hf => repD_sub (full' := full && hi.isNone) hd (l := l.toNat) (h' := h'.toNat) (m := cap) (by omega) (by omega) (by omega) (Nat.le_refl _) hf
          rcases ahigh_sound hh hhi hhi' with ⟨rfl, rfl, rfl⟩ | ⟨k1, rfl, hs⟩
          · have main := main (fun hf => by simp at hf; rw [k3 hf]; simp)
            rcases alow_sound hl hlo hlo' with ⟨rfl, rfl⟩ | ⟨k2, rfl⟩
            · refine ⟨_, ?_, .deep main⟩
              simp [Instr.sliceAt, run_underlying hu, Instr.slice, Instr.sliceBounds, hso]
            · refine ⟨_, ?_, .deep main⟩
              have := run_sliceBound (P := C.P) (k := k2) o1 o2 .sliceB w
              simp [Instr.sliceAt, run_underlying hu, Instr.slice, Instr.sliceBounds, hso, this]
          · have main := main (fun hf => by cases hi <;> simp_all)
            have hb := run_sliceBound (P := C.P) (k := k1) (y := cap) (show 0 ≤ h' by omega) (by omega) .sliceAcap w
            rcases alow_sound hl hlo hlo' with ⟨rfl, rfl⟩ | ⟨k2, rfl⟩
            · refine ⟨_, ?_, .deep main⟩
              simp [Instr.sliceAt, run_underlying hu, Instr.slice, Instr.sliceBounds, hso, hb]
            · refine ⟨_, ?_, .deep main⟩
              have := run_sliceBound (P := C.P) (k := k2) (y := h'.toNat) o1 (by omega) .sliceB w
              simp [Instr.sliceAt, run_underlying hu, Instr.slice, Instr.sliceBounds, hso, hb, this]
        · rename_i km m l h' hl hh
          injection h with h; injection h with e1 e2; subst e1 e2
          obtain ⟨o1, o2, o3, rfl, o5⟩ := hob
          obtain ⟨vm, rfl, hvm⟩ := hmx' _ rfl
          obtain rfl := rep_int hvm
          have main := repD_sub (full' := true) hd (l := l.toNat) (h' := m.toNat) (m := m.toNat) (by omega) (by omega) (Nat.le_refl _) (by omega) (fun _ => rfl)
          have hb1 := run_sliceBound (P := C.P) (k := km) (y := cap) (show 0 ≤ m by omega) (by omega) .slice3Acap w
          rcases ahigh_sound hh hhi hhi' with ⟨_, rfl, _⟩ | ⟨k1, rfl, hs⟩
          · cases o5
          · have hb := run_sliceBound (P := C.P) (k := k1) (y := m.toNat) (show 0 ≤ m by omega) (by omega) .slice3B w
            rcases alow_sound hl hlo hlo' with ⟨rfl, rfl⟩ | ⟨k2, rfl⟩
            · refine ⟨_, ?_, .deep main⟩
              simp [Instr.sliceAt, run_underlying hu, Instr.slice, Instr.sliceBounds, hso, hb, hb1]
            · refine ⟨_, ?_, .deep main⟩
              have := run_sliceBound (P := C.P) (k := k2) (y := m.toNat) o1 (by omega) .slice3C w
              simp [Instr.sliceAt, run_underlying hu, Instr.slice, Instr.sliceBounds, hso, hb, hb1, this]
        · cases h
      · cases h
    · cases h
  · cases h

end
end Go.Proofs.YtankjfiaajpfoaaDoor
