/-
  An append, to a slice of the call's own or to one that is full. Own work; no program in sight.
-/
import Derived.Test.YtankjfiaajpfoaaDoorAm14
namespace Go.Proofs.YtankjfiaajpfoaaDoor
open Go.RowKit

section
variable {C : Ctx} {w w' : World} {X : Nat → Prop} {β : List BI} {H : List Blk}

theorem blk_new {β' : List BI} {H' : List Blk} (S : StepR w β H w' β' H') {b : Blk} {cur : Array Value} {bk cap : Nat} (hw : w'.heap[bk]? = some (.cells cur b.e (0, 0))) (hcur : cur.size = cap * b.sz) (hle : b.rows.length ≤ cap) (hcm : cap ≤ maxLen) (hz : 0 < b.sz) (hr : ∀ r ∈ b.rows, r.length = b.sz)
    (hc : ∀ (i j : Nat) (r : List AV) (av : AV), b.rows[i]? = some r → r[j]? = some av → ∃ v, cur[i * b.sz + j]? = some v ∧ v.oneCell' = true ∧ Rep w (Mu X β H) β H v av ∧ (b.deep = true → RepD w (Mu X β H) v av)) :
    BlkRep w' (Mu X β' H') β' H' (.lies bk cap) b := by
  refine ⟨cur, hw, hcur, hle, hcm, hz, hr, fun i j r av hi hj => ?_⟩
  obtain ⟨v, h1, h2, h3, h4⟩ := hc i j r av hi hj
  exact ⟨v, h1, h2, h3.keep S, fun hd => (h4 hd).keep (fun b hb hn => S.keeps.block b hb (fun hm => hn (.inr hm))) S.keeps.size (fun b hb => S.mu b hb)⟩

/-- What is appended. -/
theorem src_rows (R : HRel w X β H) {e : TypeId} {x : AV} {ob : Prop} {ys : List (List AV)} (h : (match x with
      | .slice sx _ ys => if sx = szT C.P e then some (True, ys) else none
      | .own l' n' => match H[l']? with
        | some b' => if b'.deep = true ∧ b'.sz = szT C.P e then some (b'.rows.length = n', b'.rows) else none
        | none => none
      | _ => none : Option (Prop × List (List AV))) = some (ob, ys)) (hob : ob) {vx : Value} (hx : Rep w (Mu X β H) β H vx x) :
    ∃ xa c xval, vx = .slice xa ys.length c ∧ RowsAt w xa ys.length (szT C.P e) xval ∧ (∀ r ∈ ys, r.length = szT C.P e) ∧ ∀ (i j : Nat) (r : List AV) (av : AV), ys[i]? = some r → r[j]? = some av → RepD w (Mu X β H) (xval i j) av := by
  split at h
  · split at h
    · rename_i hs
      injection h with h; injection h with e1 e2; subst e1 e2
      obtain ⟨a, cap, val, rfl, h1, h2, h3, hr, hm, hv⟩ := repD_slice (rep_slice hx)
      refine ⟨a, cap, val, rfl, fun h0 => ?_, fun r hr' => by rw [hr r hr', hs], fun i j r av hi hj => hv i j r av hi hj⟩
      obtain ⟨b, off, rfl, _, _, hc⟩ := hm h0
      rw [← hs]
      exact ⟨b, off, rfl, hc⟩
    · cases h
  · rename_i l' n'
    split at h
    · rename_i b' hb'
      split at h
      · rename_i hc
        injection h with h; injection h with e1 e2; subst e1 e2
        obtain ⟨a, cap, b, rfl, hb, hn, h0, hq⟩ := rep_own hx
        rw [hb'] at hb; injection hb with hb; subst hb
        have hq := hq hob
        cases hβ : β[l']? with
        | none => rw [hβ] at hq; exact hq.elim
        | some bi =>
          rw [hβ] at hq
          have hB := R.blk l' bi b' hβ hb'
          rw [hob]
          cases bi with
          | nil =>
            obtain ⟨rfl, rfl⟩ := hq
            have : b'.rows = [] := hB.1
            rw [this]
            exact ⟨a, 0, fun _ _ => undef, rfl, fun h => absurd rfl h, fun r hr => (by cases hr), fun i j r av hi => (by simp at hi)⟩
          | lies bk c =>
            obtain ⟨rfl, rfl⟩ := hq
            obtain ⟨cur, h1, h2, h3, h4, h5, h6, h7⟩ := hB
            refine ⟨_, cap, fun i j => cur.getD (i * b'.sz + j) undef, rfl, fun _ => ⟨bk, 0, rfl, fun i j hi hj => ?_⟩, fun r hr => by rw [h6 r hr, hc.2], fun i j r av hi hj => ?_⟩
            · have hi' : i < b'.rows.length := by omega
              have hrow : b'.rows[i].length = b'.sz := h6 _ (List.getElem_mem hi')
              rw [← hc.2] at hj ⊢
              obtain ⟨v, k1, k2, _⟩ := h7 i j _ _ (List.getElem?_eq_getElem hi') (List.getElem?_eq_getElem (show j < b'.rows[i].length by omega))
              rw [show 0 + i * b'.sz + j = i * b'.sz + j by omega, cell_of_row w bk _ cur b'.e (0, 0) h1, k1]
              have : cur.getD (i * b'.sz + j) undef = v := by simp [Array.getD_eq_getD_getElem?, k1]
              show some v = some (cur.getD (i * b'.sz + j) undef) ∧ (cur.getD (i * b'.sz + j) undef).oneCell' = true
              rw [this]
              exact ⟨rfl, k2⟩
            · obtain ⟨v, k1, k2, k3, k4⟩ := h7 i j r av hi hj
              have : cur.getD (i * b'.sz + j) undef = v := by simp [Array.getD_eq_getD_getElem?, k1]
              show RepD w (Mu X β H) (cur.getD (i * b'.sz + j) undef) av
              rw [this]
              exact k4 hc.1
      · cases h
    · cases h
  · cases h

theorem keeps_drew_alloc (w : World) (o : Obj) : Keeps (fun _ => False) w (w.drew.alloc o) := (Keeps.drew _ w).trans (Keeps.alloc (fun _ => False) w.drew o) (fun _ _ h => h)

theorem rows_cat {rows ys : List (List AV)} {i : Nat} {r : List AV} (h : (rows ++ ys)[i]? = some r) : (i < rows.length ∧ rows[i]? = some r) ∨ (rows.length ≤ i ∧ i - rows.length < ys.length ∧ ys[i - rows.length]? = some r) := by
  rcases Nat.lt_or_ge i rows.length with h1 | h1
  · rw [List.getElem?_append_left h1] at h; exact .inl ⟨h1, h⟩
  · rw [List.getElem?_append_right h1] at h; exact .inr ⟨h1, (List.getElem?_eq_some_iff.1 h).1, h⟩

theorem set_self {l : Nat} {b : Blk} (hb : H[l]? = some b) : H.set l b = H := by
  apply List.ext_getElem?
  intro k
  by_cases e : l = k
  · subst e; rw [List.getElem?_set_self (List.getElem?_eq_some_iff.1 hb).1, hb]
  · rw [List.getElem?_set_ne e]

theorem aappend_sound (R : HRel w X β H) {t : TypeId} {s x : AV} {ob : Prop} {r : AV} {H' : List Blk} (h : aappend C H t s x = some (ob, r, H')) (hob : ob) {vs vx : Value} (hs : Rep w (Mu X β H) β H vs s) (hx : Rep w (Mu X β H) β H vx x) (ty : TypeId) :
    ∃ u w' β', (Builtin.append_ #[t, t] ty #[vs, vx]).run C.P w = .ok u w' ∧ HRel w' X β' H' ∧ StepR w β H w' β' H' ∧ Rep w' (Mu X β' H') β' H' u r := by
  unfold aappend at h
  split at h
  · rename_i e he
    split at h
    · cases h
    · rename_i hz
      obtain ⟨z, hz⟩ : ∃ z, zT C.P e = some z := by cases hz' : zT C.P e <;> simp_all
      have hz0 : 0 < szT C.P e := by
        obtain ⟨i, zv, z1, z2, z3, z4, z5, z6, z7⟩ := zT_sound hz
        omega
      split at h
      · rename_i ob0 ys hsrc
        split at h
        · -- a full slice
          rename_i sz rows
          split at h
          · rename_i hsz
            injection h with h; injection h with e1 e2; injection e2 with e2 e3; subst e1 e2 e3
            obtain ⟨o0, o1, o2, o3⟩ := hob
            obtain ⟨xa, c, xval, rfl, hxr, hxl, hxv⟩ := src_rows R hsrc o0 hx
            obtain ⟨a, cap, val, rfl, k1, k2, k3, hr, hm, hv⟩ := repD_slice (rep_slice hs)
            have hcap := k3 rfl
            subst hsz
            by_cases hy : ys = []
            · have hrows : rows = [] := o1.resolve_right (fun h => h hy)
              subst hy hrows
              simp only [List.length_nil] at hcap
              subst hcap
              have hk := Keeps.refl (fun _ => False) w
              have S := push_step (w' := w) R hk .nil ⟨e, szT C.P e, [] ++ [], true, true⟩ (fun bk c e => by cases e)
              refine ⟨_, w, β ++ [.nil], append_zero he hz0 (Nat.le_refl 0), push_hrel R hk .nil _ (fun bk c e => by cases e) (fun bk c e => by cases e) ⟨rfl, hz0⟩, S, ?_⟩
              refine .own H.length 0 a 0 _ (getElem?_snoc_new H _) (Nat.le_refl _) (.inl rfl) fun _ => ?_
              rw [← R.len, getElem?_snoc_new]
              exact ⟨rfl, rfl⟩
            · have hm0 : ys.length ≠ 0 := fun h => hy (List.length_eq_zero_iff.1 h)
              rw [List.length_append] at o2 o3
              obtain ⟨cap', cur, g1, g2, g3, g4, g5⟩ := append_grow (w := w) he hz (n := rows.length) (cap := cap) (m := ys.length) (c := c) (ty := ty) val xval (fun h0 => by
                obtain ⟨b, off, e1, _, _, hc⟩ := hm h0
                exact ⟨b, off, e1, hc⟩) hxr hm0 (by omega) o2 o3 (fun hn => by
                  by_cases h0 : rows.length = 0
                  · exact ⟨h0, by omega⟩
                  · obtain ⟨b, off, e1, _⟩ := hm h0
                    rw [hn] at e1; cases e1)
              have hk := keeps_drew_alloc w (.cells cur e)
              have S := push_step R hk (.lies w.heap.size cap') ⟨e, szT C.P e, rows ++ ys, true, true⟩ (fun bk c e => by injection e with e _; omega)
              refine ⟨_, _, β ++ [.lies w.heap.size cap'], g1, push_hrel R hk _ _ (fun bk c e => by injection e with e _; omega) (fun bk c e => by injection e with e _; subst e; simp) ?_, S, ?_⟩
              · refine blk_new S (heap_alloc_new w.drew _) g2 (by simpa using g3) g4 hz0 (fun r hr' => ?_) (fun i j r av hi hj => ?_)
                · rcases List.mem_append.1 hr' with h | h
                  · exact hr r h
                  · exact hxl r h
                · have hil := (List.getElem?_eq_some_iff.1 hi).1
                  rw [List.length_append] at hil
                  have hjl := (List.getElem?_eq_some_iff.1 hj).1
                  rcases rows_cat hi with ⟨h1, h2⟩ | ⟨h1, h2, h3⟩
                  · have hjl' : j < szT C.P e := by rw [← hr r (List.mem_of_getElem? h2)]; exact hjl
                    have hg := g5 i j hil hjl'
                    rw [if_pos h1] at hg
                    obtain ⟨b, off, _, _, _, hc⟩ := hm (by omega)
                    exact ⟨_, hg, (hc i j h1 hjl').2, .deep (hv i j r av h2 hj), fun _ => hv i j r av h2 hj⟩
                  · have hjl' : j < szT C.P e := by rw [← hxl r (List.mem_of_getElem? h3)]; exact hjl
                    have hg := g5 i j hil hjl'
                    rw [if_neg (by omega)] at hg
                    obtain ⟨b, off, _, hc⟩ := hxr hm0
                    exact ⟨_, hg, (hc _ j h2 hjl').2, .deep (hxv _ j r av h3 hj), fun _ => hxv _ j r av h3 hj⟩
              · rw [List.length_append]
                refine .own H.length _ _ cap' _ (getElem?_snoc_new H _) (by simp) (.inr ⟨_, rfl⟩) fun _ => ?_
                rw [← R.len, getElem?_snoc_new]
                exact ⟨rfl, rfl⟩
          · cases h
        · -- a slice of the call's own
          rename_i l n
          split at h
          · rename_i b hb
            split at h
            · rename_i hmu
              injection h with h; injection h with e1 e2; injection e2 with e2 e3; subst e1 e2 e3
              obtain ⟨o0, o1, o2, o3⟩ := hob
              obtain ⟨xa, c, xval, rfl, hxr, hxl, hxv⟩ := src_rows R hsrc o0 hx
              obtain ⟨a, cap, b', rfl, hb', hn, h0, hq⟩ := rep_own hs
              rw [hb] at hb'; injection hb' with hb'; subst hb'
              have hq := hq o1
              cases hβ : β[l]? with
              | none => rw [hβ] at hq; exact hq.elim
              | some bi =>
                have hq' := hq
                rw [hβ] at hq
                have hB := R.blk l bi b hβ hb
                by_cases hy : ys = []
                · subst hy
                  have hcapn : n ≤ cap := by
                    cases bi with
                    | nil => obtain ⟨rfl, rfl⟩ := hq; exact Nat.le_refl _
                    | lies bk c0 =>
                      obtain ⟨rfl, rfl⟩ := hq
                      obtain ⟨cur, h1, h2, h3, _⟩ := hB
                      omega
                  have hbb : ({ b with rows := b.rows ++ [] } : Blk) = b := by cases b; simp
                  rw [hbb, set_self hb, List.append_nil, o1]
                  exact ⟨_, w, β, append_zero he hz0 hcapn, R, StepR.refl w β H R.len, hs⟩
                · have hm0 : ys.length ≠ 0 := fun h => hy (List.length_eq_zero_iff.1 h)
                  have hne : (b.rows ++ ys).length ≠ b.rows.length := by rw [List.length_append]; omega
                  rw [List.length_append] at o2 o3
                  have hbs := hmu.2.2
                  -- behind a growing append
                  have grown : ∀ (val : Nat → Nat → Value) (cap' : Nat) (cur : Array Value), (∀ i j, i < n → j < szT C.P e → (val i j).oneCell' = true) →
                      (∀ (i j : Nat) (r : List AV) (av : AV), b.rows[i]? = some r → r[j]? = some av → Rep w (Mu X β H) β H (val i j) av ∧ (b.deep = true → RepD w (Mu X β H) (val i j) av)) → (∀ r ∈ b.rows, r.length = szT C.P e) →
                      cur.size = cap' * szT C.P e → n + ys.length ≤ cap' → cap' ≤ maxLen → (∀ i j, i < n + ys.length → j < szT C.P e → cur[i * szT C.P e + j]? = some (if i < n then val i j else xval (i - n) j)) →
                      ∃ β', HRel (w.drew.alloc (.cells cur e)) X β' (H.set l { b with rows := b.rows ++ ys }) ∧ StepR w β H (w.drew.alloc (.cells cur e)) β' (H.set l { b with rows := b.rows ++ ys }) ∧
                        Rep (w.drew.alloc (.cells cur e)) (Mu X β' (H.set l { b with rows := b.rows ++ ys })) β' (H.set l { b with rows := b.rows ++ ys }) (.slice (some ⟨w.heap.size, 0, none⟩) (n + ys.length) cap') (.own l (b.rows ++ ys).length) := by
                    intro val cap' cur hone hval hrl g2 g3 g4 g5
                    have hk := keeps_drew_alloc w (.cells cur e)
                    have S := set_step (w := w) R hb hβ (.lies w.heap.size cap') { b with rows := b.rows ++ ys } rfl rfl (by simp) (fun h => absurd h hne) (fun h => h) (fun bk c e => by injection e with e _; exact .inl (by omega)) (hk.weaken fun _ _ h => h.elim)
                    refine ⟨β.set l (.lies w.heap.size cap'), set_hrel R hb hβ _ _ S (fun l' bk c hl hb' => hk.block bk (R.lt l' bk c hb').1 id) ?_ (fun bk c e => ?_) (fun bk c l' c' e hl hb' => ?_), S, ?_⟩
                    · refine blk_new S (by rw [hmu.2.1]; exact heap_alloc_new w.drew _) (by rw [hbs]; exact g2) (by simp; omega) g4 (by rw [hbs]; exact hz0) (fun r hr' => ?_) (fun i j r av hi hj => ?_)
                      · rcases List.mem_append.1 hr' with h | h
                        · rw [hrl r h, hbs]
                        · rw [hxl r h, hbs]
                      · simp only [hbs]
                        have hil := (List.getElem?_eq_some_iff.1 hi).1
                        rw [List.length_append] at hil
                        have hjl := (List.getElem?_eq_some_iff.1 hj).1
                        rcases rows_cat hi with ⟨h1, h2⟩ | ⟨h1, h2, h3⟩
                        · have hjl' : j < szT C.P e := by rw [← hrl r (List.mem_of_getElem? h2)]; exact hjl
                          have hg := g5 i j (by omega) hjl'
                          rw [if_pos (by omega)] at hg
                          obtain ⟨q1, q2⟩ := hval i j r av h2 hj
                          exact ⟨_, hg, hone i j (by omega) hjl', q1, q2⟩
                        · have hjl' : j < szT C.P e := by rw [← hxl r (List.mem_of_getElem? h3)]; exact hjl
                          have hg := g5 i j (by omega) hjl'
                          rw [if_neg (by omega), show i - n = i - b.rows.length by omega] at hg
                          obtain ⟨b0, off, _, hc⟩ := hxr hm0
                          exact ⟨_, hg, (hc _ j h2 hjl').2, .deep (hxv _ j r av h3 hj), fun _ => hxv _ j r av h3 hj⟩
                    · injection e with e1 e2
                      subst e1
                      exact ⟨by simp, fun h => Nat.lt_irrefl _ (R.base _ h)⟩
                    · injection e with e1 e2
                      subst e1
                      exact Nat.lt_irrefl _ (R.lt l' _ c' hb').1
                    · rw [List.length_append, o1]
                      refine .own l _ _ cap' { b with rows := b.rows ++ ys } (List.getElem?_set_self (List.getElem?_eq_some_iff.1 hb).1) (by simp; omega) (.inr ⟨_, rfl⟩) fun _ => ?_
                      rw [List.getElem?_set_self (List.getElem?_eq_some_iff.1 hβ).1]
                      exact ⟨rfl, rfl⟩
                  cases bi with
                  | nil =>
                    obtain ⟨rfl, rfl⟩ := hq
                    have hrows : b.rows = [] := List.length_eq_zero_iff.1 o1
                    obtain ⟨cap', cur, g1, g2, g3, g4, g5⟩ := append_grow (w := w) he hz (n := 0) (cap := 0) (m := ys.length) (c := c) (ty := ty) (a := a) (fun _ _ => undef) xval (fun h0 => absurd rfl h0) hxr hm0 (by omega) (by rw [o1] at o2; exact o2) (by omega) (fun _ => ⟨rfl, rfl⟩)
                    obtain ⟨β', R', S, hr⟩ := grown (fun _ _ => undef) cap' cur (fun i j hi => by omega) (fun i j r av hi => by rw [hrows] at hi; simp at hi) (fun r hr => by rw [hrows] at hr; cases hr) g2 g3 g4 g5
                    exact ⟨_, _, β', g1, R', S, hr⟩
                  | lies bk c0 =>
                    obtain ⟨rfl, rfl⟩ := hq
                    obtain ⟨cur0, h1, h2, h3, h4, h5, h6, h7⟩ := hB
                    have cell : ∀ i j, i < n → j < szT C.P e → ∃ v, cur0[i * szT C.P e + j]? = some v ∧ v.oneCell' = true := by
                      intro i j hi hj
                      have hi' : i < b.rows.length := by omega
                      have hrow : b.rows[i].length = b.sz := h6 _ (List.getElem_mem hi')
                      obtain ⟨v, k1, k2, _⟩ := h7 i j _ _ (List.getElem?_eq_getElem hi') (List.getElem?_eq_getElem (show j < b.rows[i].length by omega))
                      rw [hbs] at k1
                      exact ⟨v, k1, k2⟩
                    by_cases hroom : n + ys.length ≤ cap
                    · obtain ⟨i0, zv, z1, z2, z3, z4, z5, z6, z7⟩ := zT_sound hz
                      have hisz : i0.size = szT C.P e := by rw [z3, z5]
                      obtain ⟨xb, xoff, rfl, hxc⟩ := hxr hm0
                      have hfit : n * szT C.P e + (flatV xval ys.length (szT C.P e)).length ≤ cur0.size := by
                        rw [flatV_length, h2, hbs, ← Nat.add_mul]
                        exact Nat.mul_le_mul_right _ hroom
                      have hrun := run_append_room (P := C.P) w t ty e i0 (elT_eq he) z1 bk n cap cur0 (by rw [← hmu.2.1]; exact h1) ⟨xb, xoff, none⟩ ys.length c (flatV xval ys.length (szT C.P e)) (by rw [flatV_length, hisz]) (fun j u hj => (flatV_mem hxc hj).1)
                        (fun u hu => by obtain ⟨j, hj, rfl⟩ := List.getElem_of_mem hu; exact (flatV_mem hxc (List.getElem?_eq_getElem hj)).2) hroom (by rw [hisz]; exact hfit)
                      rw [hisz] at hrun
                      obtain ⟨cur', hcur', hget, hsize⟩ : ∃ cur', cur' = (cur0.toList.take (n * szT C.P e) ++ flatV xval ys.length (szT C.P e) ++ cur0.toList.drop (n * szT C.P e + (flatV xval ys.length (szT C.P e)).length)).toArray ∧
                          (∀ k : Nat, cur'[k]? = if n * szT C.P e ≤ k ∧ k < n * szT C.P e + ys.length * szT C.P e then (flatV xval ys.length (szT C.P e))[k - n * szT C.P e]? else cur0[k]?) ∧ cur'.size = cur0.size :=
                        ⟨_, rfl, fun k => by rw [mid_get _ _ _ _ hfit, flatV_length], mid_size _ _ _ hfit⟩
                      rw [← hcur'] at hrun
                      clear hcur'
                      have hM : MutB β H bk := ⟨l, cap, b, hβ, hb, hmu.1⟩
                      have S := set_step (w := w) R hb hβ (.lies bk cap) { b with rows := b.rows ++ ys } rfl rfl (by simp) (fun h => absurd h hne) (fun h => h) (fun bk c e => .inr ⟨c, e⟩) (keeps_setRow w hM cur')
                      refine ⟨_, _, β.set l (.lies bk cap), hrun, set_hrel R hb hβ _ _ S (fun l' bk' c hl hb' => setRow_other w bk bk' _ (fun e => hl (R.inj l' l bk' c cap hb' (e ▸ hβ)))) ?_ (fun bk' c e => ?_) (fun bk' c l' c' e hl hb' => ?_), S, ?_⟩
                      · refine blk_new S (setRow_heap w bk cur0 _ b.e (0, 0) h1) (by rw [hsize, h2]) (by simp; omega) h4 (by rw [hbs]; exact hz0) (fun r hr' => ?_) (fun i j r av hi hj => ?_)
                        · rcases List.mem_append.1 hr' with h | h
                          · exact h6 r h
                          · rw [hxl r h, hbs]
                        · simp only [hbs, hget]
                          have hjl := (List.getElem?_eq_some_iff.1 hj).1
                          rcases rows_cat hi with ⟨h1', h2'⟩ | ⟨h1', h2', h3'⟩
                          · have hjl' : j < szT C.P e := by rw [← hbs, ← h6 r (List.mem_of_getElem? h2')]; exact hjl
                            have hlt : i * szT C.P e + j < n * szT C.P e := by
                              have := Nat.mul_le_mul_right (szT C.P e) (show i + 1 ≤ n by omega)
                              rw [Nat.add_mul] at this
                              omega
                            rw [if_neg (by omega)]
                            obtain ⟨v, q1, q2, q3, q4⟩ := h7 i j r av h2' hj
                            rw [hbs] at q1
                            exact ⟨v, q1, q2, q3, q4⟩
                          · have hjl' : j < szT C.P e := by rw [← hxl r (List.mem_of_getElem? h3')]; exact hjl
                            have hge : n * szT C.P e ≤ i * szT C.P e := Nat.mul_le_mul_right _ (by omega)
                            have hsub : i * szT C.P e + j - n * szT C.P e = (i - n) * szT C.P e + j := by rw [Nat.sub_mul]; omega
                            have hlt : (i - n) * szT C.P e + j < ys.length * szT C.P e := by
                              have := Nat.mul_le_mul_right (szT C.P e) (show i - n + 1 ≤ ys.length by omega)
                              rw [Nat.add_mul] at this
                              omega
                            rw [if_pos (by omega), hsub, flatV_get _ _ _ _ _ (by omega) hjl']
                            refine ⟨_, rfl, (hxc _ j (by omega) hjl').2, ?_⟩
                            have := hxv (i - n) j r av (by rw [show i - n = i - b.rows.length by omega]; exact h3') hj
                            exact ⟨.deep this, fun _ => this⟩
                      · injection e with e1 e2
                        subst e1
                        exact ⟨Nat.lt_of_lt_of_le (R.lt l bk cap hβ).1 S.keeps.size, (R.lt l bk cap hβ).2⟩
                      · injection e with e1 e2
                        subst e1
                        exact hl (R.inj l' l bk c' cap hb' hβ)
                      · rw [List.length_append, o1]
                        refine .own l _ _ cap { b with rows := b.rows ++ ys } (List.getElem?_set_self (List.getElem?_eq_some_iff.1 hb).1) (by simp; omega) (.inr ⟨_, rfl⟩) fun _ => ?_
                        rw [List.getElem?_set_self (List.getElem?_eq_some_iff.1 hβ).1]
                        exact ⟨rfl, rfl⟩
                    · obtain ⟨cap', cur, g1, g2, g3, g4, g5⟩ := append_grow (w := w) he hz (n := n) (cap := cap) (m := ys.length) (c := c) (ty := ty) (a := some ⟨bk, 0, none⟩) (fun i j => cur0.getD (i * szT C.P e + j) undef) xval (fun _ => ⟨bk, 0, rfl, fun i j hi hj => by
                        obtain ⟨v, k1, k2⟩ := cell i j hi hj
                        have : cur0.getD (i * szT C.P e + j) undef = v := by simp [Array.getD_eq_getD_getElem?, k1]
                        rw [show 0 + i * szT C.P e + j = i * szT C.P e + j by omega, cell_of_row w bk _ cur0 b.e (0, 0) h1, k1]
                        show some v = some (cur0.getD (i * szT C.P e + j) undef) ∧ (cur0.getD (i * szT C.P e + j) undef).oneCell' = true
                        rw [this]
                        exact ⟨rfl, k2⟩⟩) hxr hm0 (by omega) (by rw [o1] at o2; exact o2) (by omega) (fun h => by cases h)
                      obtain ⟨β', R', S, hr⟩ := grown (fun i j => cur0.getD (i * szT C.P e + j) undef) cap' cur (fun i j hi hj => by
                          obtain ⟨v, k1, k2⟩ := cell i j hi hj
                          have : cur0.getD (i * szT C.P e + j) undef = v := by simp [Array.getD_eq_getD_getElem?, k1]
                          show (cur0.getD (i * szT C.P e + j) undef).oneCell' = true
                          rw [this]; exact k2) (fun i j r av hi hj => by
                          obtain ⟨v, q1, q2, q3, q4⟩ := h7 i j r av hi hj
                          rw [hbs] at q1
                          have : cur0.getD (i * szT C.P e + j) undef = v := by simp [Array.getD_eq_getD_getElem?, q1]
                          show Rep w (Mu X β H) β H (cur0.getD (i * szT C.P e + j) undef) av ∧ (b.deep = true → RepD w (Mu X β H) (cur0.getD (i * szT C.P e + j) undef) av)
                          rw [this]; exact ⟨q3, q4⟩) (fun r hr => by rw [← hbs]; exact h6 r hr) g2 g3 g4 g5
                      exact ⟨_, _, β', g1, R', S, hr⟩
            · cases h
          · cases h
        · cases h
      · cases h
  · cases h

end
end Go.Proofs.YtankjfiaajpfoaaDoor
