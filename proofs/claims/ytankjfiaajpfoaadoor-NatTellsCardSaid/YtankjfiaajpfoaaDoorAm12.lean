/-
  Soundness of the operations that read blocks, second part: slices written out, bytes to a string, calls. Own work; no program in sight.
-/
import Derived.Test.YtankjfiaajpfoaaDoorAm11
namespace Go.Proofs.YtankjfiaajpfoaaDoor
open Go.RowKit

theorem rep_nil {w : World} {X : Nat → Prop} {β : List BI} {v : Value} {av : AV} (h : Rep w X β [] v av) : RepD w X v av := by
  induction h with
  | deep h => exact h
  | own l n a cap b hb => simp at hb
  | ptr l n sz i f a b hb => simp at hb
  | agg cs cells val hl hm hv ih => exact .agg cs cells val hl hm ih
  | tup cs cells val hl hm hv ih => exact .tup cs cells val hl hm ih
  | fn f cs cells val hl hm hv ih => exact .fn f cs cells val hl hm ih

theorem repD_nrmC {w : World} {X : Nat → Prop} {v : Value} {av : AV} (h : RepD w X v av) : RepD w X v (nrmC av) := by
  unfold nrmC
  split
  · cases h with
    | slice _ _ _ a n cap val hn h1 h2 h3 hr hm hv => exact .slice _ false _ a n cap val hn h1 h2 (fun h => by cases h) hr hm hv
  · exact h

section
variable {C : Ctx} {w : World} {X Y : Nat → Prop} {β : List BI} {H : List Blk}

theorem aparts_length {e : TypeId} : ∀ {i : Nat} {parts : List (Nat × AV)} {rows : List (List AV)}, aparts C e i parts = some rows → rows.length = parts.length
  | _, [], rows, h => by simp only [aparts, Option.some.injEq] at h; subst h; rfl
  | i, (k, v) :: r, rows, h => by
    unfold aparts at h
    split at h
    · split at h
      · rename_i cs rest h1 h2
        injection h with h; subst h
        simp [aparts_length h2]
      · cases h
    · cases h

/-- A dense row of parts, filled in. -/
theorem fill_dense {e : TypeId} (sz : Nat) (hsz : sz = szT C.P e) : ∀ (parts : List (Nat × AV)) (vparts : List (Nat × Value)) (i : Nat) (rows : List (List AV)) (cs : Array Value), aparts C e i parts = some rows →
    vparts.length = parts.length → (∀ (j k : Nat) (u : AV), parts[j]? = some (k, u) → ∃ v, vparts[j]? = some (k, v) ∧ RepD w Y v u) → cs.size = (i + parts.length) * sz →
    ∃ cs', Instr.fill (fun k => some (k * sz, sz)) cs vparts = some cs' ∧ cs'.size = cs.size ∧ (∀ k, k < i * sz → cs'[k]? = cs[k]?) ∧ (∀ r ∈ rows, r.length = sz) ∧
      ∀ (m j : Nat) (r : List AV) (av : AV), rows[m]? = some r → r[j]? = some av → ∃ v, cs'[(i + m) * sz + j]? = some v ∧ v.oneCell' = true ∧ RepD w Y v av
  | [], vparts, i, rows, cs, h, hl, hv, hs => by
    simp only [aparts, Option.some.injEq] at h
    subst h
    obtain rfl := List.length_eq_zero_iff.1 hl
    exact ⟨cs, rfl, rfl, fun _ _ => rfl, fun r hr => (by cases hr), fun m j r av hm => (by simp at hm)⟩
  | (k, u) :: parts, vparts, i, rows, cs, h, hl, hv, hs => by
    obtain ⟨v, h1, h2⟩ := hv 0 k u rfl
    match vparts, hl, hv, h1 with
    | x :: vp, hl, hv, h1 =>
      simp at h1
      subst h1
      unfold aparts at h
      split at h
      · rename_i hki
        subst hki
        split at h
        · rename_i cu rest hcu hrest
          injection h with h
          subst h
          obtain ⟨k1, k2⟩ := cellsOf_sound (w := w) (X := Y) (β := []) (H := []) hcu (.deep h2)
          have hvs : v.cells.size = sz := by rw [k1.1, k2, hsz]
          have hcl : cu.length = sz := by rw [k2, hsz]
          simp only [List.length_cons] at hs
          have hmul : (k + (parts.length + 1)) * sz = k * sz + sz + parts.length * sz := by rw [Nat.add_mul, Nat.add_mul]; omega
          have eq1 : v.cells.zipIdx.foldl (fun (cs : Array Value) (x : Value × Nat) => cs.setIfInBounds (k * sz + x.2) x.1) cs = (v.cells.toList.zipIdx 0).foldl (fun cs x => cs.setIfInBounds (k * sz + x.2) x.1) cs := by
            rw [← Array.foldl_toList]
            simp
          obtain ⟨f1, f2⟩ := foldl_set (k * sz) v.cells.toList 0 cs
          obtain ⟨cs', g1, g2, g3, g4, g5⟩ := fill_dense sz hsz parts vp (k + 1) rest _ hrest (by simpa using hl) (fun j k u hj => by have := hv (j + 1) k u (by simpa using hj); simpa using this)
            (show ((v.cells.toList.zipIdx 0).foldl (fun cs x => cs.setIfInBounds (k * sz + x.2) x.1) cs).size = (k + 1 + parts.length) * sz by rw [f1, hs]; congr 1; omega)
          refine ⟨cs', ?_, by rw [g2, f1], fun m hm => ?_, fun r hr => ?_, fun m j r av hm hj => ?_⟩
          · unfold Instr.fill
            simp only [hvs, ne_eq, not_true_eq_false, Bool.false_or, decide_false]
            rw [if_neg (by simp; omega), eq1, g1]
          · have hlt : m < (k + 1) * sz := by rw [Nat.add_mul]; omega
            rw [g3 m hlt, f2 m, if_neg (by omega)]
          · rcases List.mem_cons.1 hr with rfl | hr
            · simp [hcl]
            · exact g4 r hr
          · match m with
            | 0 =>
              simp at hm
              subst hm
              rw [List.getElem?_map] at hj
              simp only [Option.map_eq_some_iff] at hj
              obtain ⟨av', hav, rfl⟩ := hj
              have hjl := (List.getElem?_eq_some_iff.1 hav).1
              obtain ⟨v', q1, q2, q3⟩ := k1.2 j av' hav
              refine ⟨v', ?_, q2, repD_nrmC (rep_nil q3)⟩
              rw [Nat.add_zero, g3 _ (by rw [Nat.add_mul]; omega), f2, if_pos ⟨by omega, by simp; omega, by omega⟩]
              simpa using q1
            | m + 1 =>
              have := g5 m j r av (by simpa using hm) hj
              rwa [show k + 1 + m = k + (m + 1) by omega] at this
        · cases h
      · cases h

theorem abuildSlice_sound {t : TypeId} {len : Nat} {parts : List (Nat × AV)} {ob : Prop} {r : AV} (h : abuildSlice C t len parts = some (ob, r)) {vparts : Array (Nat × Value)} (hl : vparts.size = parts.length)
    (hv : ∀ (j k : Nat) (u : AV), parts[j]? = some (k, u) → ∃ v, vparts[j]? = some (k, v) ∧ RepD w Y v u) (hY : ∀ b, Y b → b < w.heap.size) :
    ∃ u w', (Instr.buildSlice t len vparts).run C.P w = .ok u w' ∧ Keeps (fun _ => False) w w' ∧ RepD w' Y u r := by
  unfold abuildSlice at h
  split at h
  · rename_i e he
    split at h
    · cases h
    · rename_i hc
      have hc1 : ¬ szT C.P e = 0 := fun h => hc (.inl h)
      have hc2 : ¬ (zT C.P e).isNone = true := fun h => hc (.inr (.inl h))
      have hc3 : parts.length = len := Classical.byContradiction fun h => hc (.inr (.inr (.inl h)))
      have hc4 : len * szT C.P e ≤ 1000000 := Nat.le_of_not_lt fun h => hc (.inr (.inr (.inr h)))
      split at h
      · rename_i rows hrows
        injection h with h; injection h with e1 e2; subst e1 e2
        obtain ⟨z, hz⟩ : ∃ z, zT C.P e = some z := by cases hz : zT C.P e <;> simp_all
        obtain ⟨i, zv, z1, z2, z3, z4, z5, z6, z7⟩ := zT_sound hz
        have hzr : (zeroValue e).run C.P w = .ok zv w := by simp [zeroValue, typeInfo, z1, z2]
        have hrl := aparts_length hrows
        have hsize := run_sizeOf (P := C.P) (Nat.pos_of_ne_zero hc1) w
        have mk : ∀ (cs : Array Value), cs.size = len * szT C.P e → ∃ cs', Instr.fill (fun k => some (k * szT C.P e, szT C.P e)) cs vparts.toList = some cs' ∧ cs'.size = cs.size ∧ (∀ r ∈ rows, r.length = szT C.P e) ∧
            ∀ (m j : Nat) (r : List AV) (av : AV), rows[m]? = some r → r[j]? = some av → ∃ v, cs'[m * szT C.P e + j]? = some v ∧ v.oneCell' = true ∧ RepD w Y v av := by
          intro cs hcs
          obtain ⟨cs', g1, g2, _, g4, g5⟩ := fill_dense (w := w) (Y := Y) (szT C.P e) rfl parts vparts.toList 0 rows cs hrows (by simpa using hl) (fun j k u hj => by simpa using hv j k u hj) (by rw [hcs, Nat.zero_add, hc3])
          exact ⟨cs', g1, g2, g4, fun m j r av hm hj => by simpa using g5 m j r av hm hj⟩
        have fin : ∀ cs', cs'.size = len * szT C.P e → (∀ r ∈ rows, r.length = szT C.P e) → (∀ (m j : Nat) (r : List AV) (av : AV), rows[m]? = some r → r[j]? = some av → ∃ v, cs'[m * szT C.P e + j]? = some v ∧ v.oneCell' = true ∧ RepD w Y v av) →
            RepD (w.alloc (.cells cs' e)) Y (.slice (some ⟨w.heap.size, 0, none⟩) len len) (.slice (szT C.P e) true rows) := by
          intro cs' hs hr hcell
          have hK := Keeps.alloc (fun _ => False) w (.cells cs' e)
          refine .slice _ true rows _ _ _ (fun m j => cs'.getD (m * szT C.P e + j) undef) (by omega) (by omega) (by unfold maxLen; have : len ≤ len * szT C.P e := Nat.le_mul_of_pos_right _ (Nat.pos_of_ne_zero hc1); omega) (fun _ => by omega) hr (fun _ => ⟨w.heap.size, 0, rfl, by simp, fun h => Nat.lt_irrefl _ (hY _ h), fun m j hm hj => ?_⟩) (fun m j r av hm hj => ?_)
          · have hrow : rows[m].length = szT C.P e := hr _ (List.getElem_mem hm)
            obtain ⟨v, q1, q2, q3⟩ := hcell m j _ _ (List.getElem?_eq_getElem hm) (List.getElem?_eq_getElem (show j < rows[m].length by omega))
            rw [cell_of_row _ _ _ _ _ _ (heap_alloc_new w _), show 0 + m * szT C.P e + j = m * szT C.P e + j by omega, q1]
            have : cs'.getD (m * szT C.P e + j) undef = v := by simp [Array.getD_eq_getD_getElem?, q1]
            rw [this]
            exact ⟨rfl, q2⟩
          · obtain ⟨v, q1, q2, q3⟩ := hcell m j r av hm hj
            have : cs'.getD (m * szT C.P e + j) undef = v := by simp [Array.getD_eq_getD_getElem?, q1]
            rw [this]
            exact q3.keep (fun b hb _ => hK.block b hb id) hK.size (fun b _ h => h)
        by_cases h0 : len * szT C.P e = 0
        · have hlen : len = 0 := (Nat.mul_eq_zero.1 h0).resolve_right hc1
          obtain ⟨cs', g1, g2, g4, g5⟩ := mk #[] (by rw [h0]; rfl)
          refine ⟨.slice (some ⟨w.heap.size, 0, none⟩) len len, w.alloc (.cells cs' e), ?_, Keeps.alloc _ _ _, fin cs' (by rw [g2, h0]; rfl) g4 g5⟩
          subst hlen
          have hvl : vparts.toList.length = 0 := by rw [Array.length_toList, hl, hc3]
          obtain rfl : vparts = #[] := by rw [← Array.toList_inj]; exact List.length_eq_zero_iff.1 hvl
          simp only [Instr.fill, Option.some.injEq] at g1
          subst g1
          simp [Instr.buildSlice, run_underlying (elT_eq he), hsize, Instr.fill, newRow]
          rw [Array.eq_empty_of_size_eq_zero (xs := Array.map (fun _ => default) (Array.range 0)) (by simp)]
        · obtain ⟨cs', g1, g2, g4, g5⟩ := mk ((Array.range (len * szT C.P e)).map fun x => zv.cells[x % zv.cells.size]!) (by simp)
          refine ⟨.slice (some ⟨w.heap.size, 0, none⟩) len len, w.alloc (.cells cs' e), ?_, Keeps.alloc _ _ _, fin cs' (by rw [g2]; simp) g4 g5⟩
          have hno : ¬ len * szT C.P e > 2 ^ 24 := by omega
          simp only [Instr.buildSlice, Sem.run_bind, run_underlying (elT_eq he), Result.andThen_ok, hsize, hno, if_false, h0, hzr, Sem.run_pure, g1, newRow, run_newObj]
          rfl
      · cases h
  · cases h

theorem unB_bytesRows_get {rows : List (List AV)} (h : rows = bytesRows (unB rows)) {i : Nat} (hi : i < rows.length) : ∃ hi' : i < (unB rows).data.size, rows[i]? = some [.int .u8 (((unB rows).data[i]'hi').toNat : Int)] := by
  have h1 : (bytesRows (unB rows))[i]? = some (rows[i]) := by rw [← h]; exact List.getElem?_eq_getElem hi
  obtain ⟨hi', h2⟩ := bytesRows_get h1
  exact ⟨hi', by rw [List.getElem?_eq_getElem hi, h2]⟩

theorem abytesStr_sound (R : HRel w X β H) {src dst : TypeId} {x : AV} {ob : Prop} {r : AV} (h : abytesStr C H src dst x = some (ob, r)) (hob : ob) {vx : Value} (hx : Rep w (Mu X β H) β H vx x) :
    ∃ u, (convert src dst vx).run C.P w = .ok u w ∧ Rep w (Mu X β H) β H u r := by
  unfold abytesStr at h
  split at h
  · rename_i e he
    split at h
    · rename_i hc
      simp only [Bool.and_eq_true, beq_iff_eq] at hc
      split at h
      · rename_i full rows hv
        injection h with h; injection h with e1 e2; subst e1 e2
        have hd := view_sound R (fun _ => True) 6 hx (fun _ _ => trivial)
        rw [hv] at hd
        obtain ⟨a, cap, val, rfl, h1, h2, h3, hr, hm, hvv⟩ := repD_slice hd
        refine ⟨.string (unB rows), ?_, .deep (.str _)⟩
        have hsz : rows.length = (unB rows).data.toList.length := by
          have := congrArg List.length hob
          rw [bytesRows_length] at this
          simpa using this
        by_cases h0 : rows.length = 0
        · have hrows : rows = [] := List.length_eq_zero_iff.1 h0
          subst hrows
          have he0 : unB [] = ByteArray.empty := rfl
          rw [he0]
          cases a with
          | none => simp [convert, run_underlying (elT_eq he), run_underlying (strT_eq hc.1.1), run_underlying (byteT_eq hc.1.2), Conv.bytesToString]
          | some ad =>
            have := run_convert_bytes_back (P := C.P) w src dst e ad cap [] (elT_eq he) (byteT_eq hc.1.2) (strT_eq hc.1.1) (fun j hj => by simp at hj)
            exact this
        · obtain ⟨b, off, rfl, hb, hX, hcell⟩ := hm h0
          have := run_convert_bytes_back (P := C.P) w src dst e ⟨b, off, none⟩ cap (unB rows).data.toList (elT_eq he) (byteT_eq hc.1.2) (strT_eq hc.1.1) (fun j hj => by
            obtain ⟨hj', h5⟩ := unB_bytesRows_get hob (i := j) (by omega)
            have h6 := hcell j 0 (by omega) (by omega)
            rw [add_eq, show off + j = off + j * 1 + 0 by omega, h6.1]
            have h7 := hvv j 0 _ _ h5 rfl
            congr 1
            have h8 := rep_int (β := []) (H := []) (Rep.deep h7)
            rw [h8]
            simp)
          rw [← hsz] at this
          simpa using this
      · cases h
    · cases h
  · cases h

end

/-! ### Contracts -/
def PureOK (P : Program) (G : Nat → AV) (f : FuncId) (p : List AV → Option (Prop × AV)) : Prop :=
  ∀ (w : World) (X : Nat → Prop) (args : Array Value) (avs : List AV) (ob : Prop) (r : AV), (∀ b, X b → b < w.heap.size) → (∀ g, RepD w X (.pointer (some ⟨g, 0, none⟩)) (G g)) → args.size = avs.length →
    (∀ (j : Nat) (u : AV), avs[j]? = some u → ∃ v, args[j]? = some v ∧ RepD w X v u) → p avs = some (ob, r) → ob →
    Calls P f args w fun e w' => ∃ v, e = .returned v ∧ Keeps (fun _ => False) w w' ∧ RepD w' X v r

def GenOK (P : Program) (G : Nat → AV) (f : FuncId) (g : List AV → List Blk → Option (Prop × AV × List Blk)) : Prop :=
  ∀ (w : World) (X : Nat → Prop) (β : List BI) (H : List Blk) (args : Array Value) (avs : List AV) (ob : Prop) (r : AV) (H' : List Blk), HRel w X β H → (∀ k, RepD w (Mu X β H) (.pointer (some ⟨k, 0, none⟩)) (G k)) → args.size = avs.length →
    (∀ (j : Nat) (u : AV), avs[j]? = some u → ∃ v, args[j]? = some v ∧ Rep w (Mu X β H) β H v u) → g avs H = some (ob, r, H') → ob →
    Calls P f args w fun e w' => ∃ v β', e = .returned v ∧ HRel w' X β' H' ∧ StepR w β H w' β' H' ∧ Rep w' (Mu X β' H') β' H' v r

def EntryOK (P : Program) (G : Nat → AV) (f : FuncId) : Entry → Prop
  | .no => True
  | .pure p => PureOK P G f p ∧ ∃ fn, P.funcs[f]? = some fn ∧ fn.name ≠ "runtime.NumGoroutine" ∧ fn.body.isSome = true
  | .frz p => PureOK P G f p ∧ ∃ fn, P.funcs[f]? = some fn ∧ fn.name ≠ "runtime.NumGoroutine" ∧ fn.body.isSome = true
  | .gen g => GenOK P G f g ∧ ∃ fn, P.funcs[f]? = some fn ∧ fn.name ≠ "runtime.NumGoroutine" ∧ fn.body.isSome = true

def SigOK (C : Ctx) : Prop := ∀ f, EntryOK C.P C.G f (C.S f)

end Go.Proofs.YtankjfiaajpfoaaDoor
