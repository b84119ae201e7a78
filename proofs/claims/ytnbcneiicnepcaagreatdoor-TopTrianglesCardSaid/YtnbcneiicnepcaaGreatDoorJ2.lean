/-
  Texts joined.
-/
import Derived.Test.YtnbcneiicnepcaaGreatDoorJ1
import Derived.Orders
import Derived.Scope
import Derived.Deep.LoopGhost
namespace Go.Proofs.YtnbcneiicnepcaaGreatDoor
open List (all_cons all_eq_true append_nil getElem?_append_left getElem?_append_right getElem?_drop getElem?_eq_getElem getElem?_map getElem?_set_self getElem?_take getElem_mem getElem_of_mem length_append length_drop length_eq_zero_iff length_nil length_take map_cons map_nil map_toArray mem_append mem_cons_of_mem mem_cons_self mem_filter mem_map mem_of_getElem? mem_of_mem_take mem_range)
open Nat (add_mul add_zero le_refl lt_of_lt_of_le lt_or_ge mul_comm mul_le_mul_right sub_mul zero_le zero_mul)
open Option (bind_some getD_some map_eq_some_iff map_some)
noncomputable section
set_option maxHeartbeats 16000000
open Go.RowKit
section
variable {C : Ctx} {w w' : World} {X : Nat -> Prop} {β : List BI} {H : List Blk}
theorem kI {β' : List BI} {H' : List Blk} (S : StepR w β H w' β' H') {b : Blk} {cur : Array Value} {bk cap : Nat} (hw : w'.heap[bk]? = some (.cells cur b.e (0, 0))) (hcur : cur.size = cap * b.sz) (hle : b.rows.length <= cap) (hcm : cap <= maxLen) (hz : 0 < b.sz) (hr : ∀ r ∈ b.rows, r.length = b.sz)
  (hc : ∀ (i j : Nat) (r : List AV) (av : AV), b.rows[i]? = some r -> r[j]? = some av -> ∃ v, cur[i * b.sz + j]? = some v /\ v.oneCell' = true /\ Rep w (Mu X β H) β H v av /\ (b.deep = true -> RepD w (Mu X β H) v av)) :
  BlkRep w' (Mu X β' H') β' H' (.lies bk cap) b := by
 refine .inl ⟨cur, hw, hcur, hle, hcm, hz, hr, λ i j r av hi hj => ?_⟩
 obtain ⟨v, h1, h2, h3, h4⟩ := hc i j r av hi hj
 exact ⟨v, h1, h2, h3.keep S, λ hd => (h4 hd).keep (λ b hb hn => S.keeps.block b hb (λ hm => hn (.inr hm))) S.keeps.size (λ b hb => S.mu b hb)⟩
theorem ku (R : HRel w X β H) {e : TypeId} {x : AV} {ob : Prop} {ys : List (List AV)} {dp : Bool} (h : (match x with
   | .slice sx _ ys => if sx = szT C.P e then some (True, ys, true) else none
   | .own l' n' => match H[l']? with
    | some b' => if b'.sz = szT C.P e then some (b'.rows.length = n', b'.rows, b'.deep) else none
    | none => none
   | .osl l' n' sz' off len => match H[l']? with
    | some b' => if b'.sz = szT C.P e /\ sz' = szT C.P e then some (b'.rows.length = n', (b'.rows.drop off).take len, b'.deep) else none
    | none => none
   | _ => none : Option (Prop × List (List AV) × Bool)) = some (ob, ys, dp)) (hob : ob) {vx : Value} (hx : Rep w (Mu X β H) β H vx x) :
  ∃ xa c xval, vx = .slice xa ys.length c /\ xC w xa ys.length (szT C.P e) xval /\ (∀ r ∈ ys, r.length = szT C.P e) /\ ∀ (i j : Nat) (r : List AV) (av : AV), ys[i]? = some r -> r[j]? = some av -> Rep w (Mu X β H) β H (xval i j) av /\ (dp = true -> RepD w (Mu X β H) (xval i j) av) := by
 split at h
 ·split at h
  ·rename_i hs
   injection h with h; injection h with e1 e2; injection e2 with e2 e3; subst e1 e2 e3
   obtain ⟨a, cap, val, rfl, h1, h2, h3, hr, hm, hv⟩ := dC (dO hx)
   refine ⟨a, cap, val, rfl, λ h0 => ?_, λ r hr' => by rw [hr r hr', hs], λ i j r av hi hj => ⟨.deep (hv i j r av hi hj), λ _ => hv i j r av hi hj⟩⟩
   obtain ⟨b, off, rfl, _, _, hc⟩ := hm h0
   rw [<- hs]
   exact ⟨b, off, rfl, hc⟩
  ·cases h
 ·rename_i l' n'
  split at h
  ·rename_i b' hb'
   split at h
   ·rename_i hc
    injection h with h; injection h with e1 e2; injection e2 with e2 e3; subst e1 e2 e3
    obtain ⟨a, cap, b, rfl, hb, hn, h0, hq⟩ := fj hx
    rw [hb'] at hb; injection hb with hb; subst hb
    have hq := hq hob
    cases hβ : β[l']? with
    | none => rw [hβ] at hq; exact hq.elim
    | some bi =>
     rw [hβ] at hq
     have hB := R.blk l' bi b' hβ hb'
     rw [hob]
     cases bi with
     | nil =>
      obtain ⟨rfl, rfl⟩ := hq
      have : b'.rows = [] := hB.1
      rw [this]
      exact ⟨a, 0, λ _ _ => undef, rfl, λ h => absurd rfl h, λ r hr => (by cases hr), λ i j r av hi => (by simp at hi)⟩
     | lies bk c =>
      obtain ⟨rfl, rfl⟩ := hq
      obtain ⟨cur, h1, h2, h3, h4, h5, h6, h7⟩ := hB.cells hn.1
      refine ⟨_, cap, λ i j => cur.getD (i * b'.sz + j) undef, rfl, λ _ => ⟨bk, 0, rfl, λ i j hi hj => ?_⟩, λ r hr => by rw [h6 r hr, hc], λ i j r av hi hj => ?_⟩
      ·have hi' : i < b'.rows.length := by omega
       have hrow : b'.rows[i].length = b'.sz := h6 _ (getElem_mem hi')
       rw [<- hc] at hj ⊢
       obtain ⟨v, k1, k2, _⟩ := h7 i j _ _ (getElem?_eq_getElem hi') (getElem?_eq_getElem (show j < b'.rows[i].length by omega))
       rw [show 0 + i * b'.sz + j = i * b'.sz + j by omega, cell_of_row w bk _ cur b'.e (0, 0) h1, k1]
       have : cur.getD (i * b'.sz + j) undef = v := by simp [Array.getD_eq_getD_getElem?, k1]
       show some v = some (cur.getD (i * b'.sz + j) undef) /\ (cur.getD (i * b'.sz + j) undef).oneCell' = true
       rw [this]
       exact ⟨rfl, k2⟩
      ·obtain ⟨v, k1, k2, k3, k4⟩ := h7 i j r av hi hj
       have : cur.getD (i * b'.sz + j) undef = v := by simp [Array.getD_eq_getD_getElem?, k1]
       show Rep w (Mu X β H) β H (cur.getD (i * b'.sz + j) undef) av /\ (b'.deep = true -> RepD w (Mu X β H) (cur.getD (i * b'.sz + j) undef) av)
       rw [this]
       exact ⟨k3, k4⟩
   ·cases h
  ·cases h
 ·rename_i l' n' sz' off len
  split at h
  ·rename_i b' hb'
   split at h
   ·rename_i hc
    obtain ⟨hc, hcs⟩ := hc
    injection h with h; injection h with e1 e2; injection e2 with e2 e3; subst e1 e2 e3
    obtain ⟨a, cap, b, rfl, hb, hn, hle, h0, hcap, hq⟩ := dR hx
    rw [hb'] at hb; injection hb with hb; subst hb
    have hq := hq hob (by rw [hc, hcs])
    have hlen : ((b'.rows.drop off).take len).length = len := by rw [length_take, length_drop]; omega
    rw [hlen]
    by_cases hz : len = 0
    ·subst hz
     refine ⟨a, cap, λ _ _ => undef, rfl, λ h => absurd rfl h, λ r hr => ?_, λ i j r av hi => ?_⟩
     ·rw [List.take_zero] at hr; cases hr
     ·rw [List.take_zero] at hi; simp at hi
    cases hβ : β[l']? with
    | none => rw [hβ] at hq; exact hq.elim
    | some bi =>
     rw [hβ] at hq
     have hB := R.blk l' bi b' hβ hb'
     cases bi with
     | nil => obtain ⟨_, q2, _⟩ := hq; exact absurd q2 hz
     | lies bk c =>
      obtain ⟨q1, q2, q3⟩ := hq
      have q3 := q3 (by omega)
      obtain ⟨cur, h1, h2, h3, h4, h5, h6, h7⟩ := hB.cells hn.1
      have row : ∀ (i : Nat) (r : List AV), ((b'.rows.drop off).take len)[i]? = some r -> b'.rows[off + i]? = some r := λ i r h => by
       rw [getElem?_take] at h
       split at h
       ·rw [getElem?_drop] at h; exact h
       ·cases h
      refine ⟨a, cap, λ i j => cur.getD ((off + i) * b'.sz + j) undef, rfl, λ _ => ⟨bk, off * b'.sz, by rw [q3, hcs, hc], λ i j hi hj => ?_⟩, λ r hr => by rw [h6 r (List.mem_of_mem_drop (mem_of_mem_take hr)), hc], λ i j r av hi hj => ?_⟩
      ·have hi' : off + i < b'.rows.length := by omega
       have hrow : b'.rows[off + i].length = b'.sz := h6 _ (getElem_mem hi')
       rw [<- hc] at hj ⊢
       obtain ⟨v, k1, k2, _⟩ := h7 (off + i) j _ _ (getElem?_eq_getElem hi') (getElem?_eq_getElem (show j < b'.rows[off + i].length by omega))
       rw [show off * b'.sz + i * b'.sz + j = (off + i) * b'.sz + j by rw [add_mul], cell_of_row w bk _ cur b'.e (0, 0) h1, k1]
       have : cur.getD ((off + i) * b'.sz + j) undef = v := by simp [Array.getD_eq_getD_getElem?, k1]
       show some v = some (cur.getD ((off + i) * b'.sz + j) undef) /\ (cur.getD ((off + i) * b'.sz + j) undef).oneCell' = true
       rw [this]
       exact ⟨rfl, k2⟩
      ·obtain ⟨v, k1, k2, k3, k4⟩ := h7 (off + i) j r av (row i r hi) hj
       have : cur.getD ((off + i) * b'.sz + j) undef = v := by simp [Array.getD_eq_getD_getElem?, k1]
       show Rep w (Mu X β H) β H (cur.getD ((off + i) * b'.sz + j) undef) av /\ (b'.deep = true -> RepD w (Mu X β H) (cur.getD ((off + i) * b'.sz + j) undef) av)
       rw [this]
       exact ⟨k3, k4⟩
   ·cases h
  ·cases h
 ·cases h
theorem fJ (w : World) (o : Obj) : Keeps (λ _ => False) w (w.drew.alloc o) := (Keeps.drew _ w).trans (Keeps.alloc (λ _ => False) w.drew o) (λ _ _ h => h)
theorem qg {rows ys : List (List AV)} {i : Nat} {r : List AV} (h : (rows ++ ys)[i]? = some r) : (i < rows.length /\ rows[i]? = some r) ∨ (rows.length <= i /\ i - rows.length < ys.length /\ ys[i - rows.length]? = some r) := by
 rcases lt_or_ge i rows.length with h1 | h1
 ·rw [getElem?_append_left h1] at h; exact .inl ⟨h1, h⟩
 ·rw [getElem?_append_right h1] at h; exact .inr ⟨h1, (List.getElem?_eq_some_iff.1 h).1, h⟩
theorem qr {l : Nat} {b : Blk} (hb : H[l]? = some b) : H.set l b = H := by
 apply List.ext_getElem?
 intro k
 by_cases e : l = k
 ·subst e; rw [getElem?_set_self (List.getElem?_eq_some_iff.1 hb).1, hb]
 ·rw [List.getElem?_set_ne e]
theorem kY (R : HRel w X β H) {t : TypeId} {s x : AV} {ob : Prop} {r : AV} {H' : List Blk} (h : gw C H t s x = some (ob, r, H')) (hob : ob) {vs vx : Value} (hs : Rep w (Mu X β H) β H vs s) (hx : Rep w (Mu X β H) β H vx x) (ty : TypeId) :
  ∃ u w' β', (Builtin.append_ #[t, t] ty #[vs, vx]).run C.P w = .ok u w' /\ HRel w' X β' H' /\ StepR w β H w' β' H' /\ Rep w' (Mu X β' H') β' H' u r := by
 unfold gw at h
 split at h
 ·rename_i e he
  split at h
  ·cases h
  ·rename_i hz
   obtain ⟨z, hz⟩ : ∃ z, zT C.P e = some z := by cases hz' : zT C.P e <;> simp_all
   have hz0 : 0 < szT C.P e := by
    obtain ⟨i, zv, z1, z2, z3, z4, z5, z6, z7⟩ := cN hz
    omega
   split at h
   ·rename_i ob0 ys dp hsrc
    split at h
    ·
     rename_i sz rows
     split at h
     ·rename_i hsz
      injection h with h; injection h with e1 e2; injection e2 with e2 e3; subst e1 e2 e3
      obtain ⟨o0, o1, o2, o3⟩ := hob
      obtain ⟨xa, c, xval, rfl, hxr, hxl, hxv⟩ := ku R hsrc o0 hx
      obtain ⟨a, cap, val, rfl, k1, k2, k3, hr, hm, hv⟩ := dC (dO hs)
      have hcap := k3 rfl
      subst hsz
      by_cases hy : ys = []
      ·have hrows : rows = [] := o1.resolve_right (λ h => h hy)
       subst hy hrows
       simp only [length_nil] at hcap
       subst hcap
       have hk := Keeps.refl (λ _ => False) w
       have S := dL (w' := w) R hk .nil ⟨e, szT C.P e, [] ++ [], true, dp⟩ (λ bk c e => by cases e)
       refine ⟨_, w, β ++ [.nil], jL he hz0 (le_refl 0), d9 R hk .nil _ (λ bk c e => by cases e) (λ bk c e => by cases e) ⟨rfl, hz0⟩, S, ?_⟩
       refine .own H.length 0 a 0 _ (bn H _) ⟨hz0, le_refl _⟩ (.inl rfl) (le_refl _) λ _ => ?_
       rw [<- R.len, bn]
       exact ⟨rfl, rfl⟩
      ·have hm0 : ys.length ≠ 0 := λ h => hy (length_eq_zero_iff.1 h)
       rw [length_append] at o2 o3
       obtain ⟨cap', cur, g1, g2, g3, g4, g5⟩ := jK (w := w) he hz (n := rows.length) (cap := cap) (m := ys.length) (c := c) (ty := ty) val xval (λ h0 => by
        obtain ⟨b, off, e1, _, _, hc⟩ := hm h0
        exact ⟨b, off, e1, hc⟩) hxr hm0 (by omega) o2 o3 (λ hn => by
         by_cases h0 : rows.length = 0
         ·exact ⟨h0, by omega⟩
         ·obtain ⟨b, off, e1, _⟩ := hm h0
          rw [hn] at e1; cases e1)
       have hk := fJ w (.cells cur e)
       have S := dL R hk (.lies w.heap.size cap') ⟨e, szT C.P e, rows ++ ys, true, dp⟩ (λ bk c e => by injection e with e _; omega)
       refine ⟨_, _, β ++ [.lies w.heap.size cap'], g1, d9 R hk _ _ (λ bk c e => by injection e with e _; omega) (λ bk c e => by injection e with e _; subst e; simp) ?_, S, ?_⟩
       ·refine kI S (heap_alloc_new w.drew _) g2 (by simpa using g3) g4 hz0 (λ r hr' => ?_) (λ i j r av hi hj => ?_)
        ·rcases mem_append.1 hr' with h | h
         ·exact hr r h
         ·exact hxl r h
        ·have hil := (List.getElem?_eq_some_iff.1 hi).1
         rw [length_append] at hil
         have hjl := (List.getElem?_eq_some_iff.1 hj).1
         rcases qg hi with ⟨h1, h2⟩ | ⟨h1, h2, h3⟩
         ·have hjl' : j < szT C.P e := by rw [<- hr r (mem_of_getElem? h2)]; exact hjl
          have hg := g5 i j hil hjl'
          rw [if_pos h1] at hg
          obtain ⟨b, off, _, _, _, hc⟩ := hm (by omega)
          exact ⟨_, hg, (hc i j h1 hjl').2, .deep (hv i j r av h2 hj), λ _ => hv i j r av h2 hj⟩
         ·have hjl' : j < szT C.P e := by rw [<- hxl r (mem_of_getElem? h3)]; exact hjl
          have hg := g5 i j hil hjl'
          rw [if_neg (by omega)] at hg
          obtain ⟨b, off, _, hc⟩ := hxr hm0
          exact ⟨_, hg, (hc _ j h2 hjl').2, (hxv _ j r av h3 hj).1, (hxv _ j r av h3 hj).2⟩
       ·rw [length_append]
        refine .own H.length _ _ cap' _ (bn H _) ⟨hz0, by simp⟩ (.inr ⟨_, rfl⟩) (by omega) λ _ => ?_
        rw [<- R.len, bn]
        exact ⟨rfl, rfl⟩
     ·cases h
    ·
     rename_i l n
     split at h
     ·rename_i b hb
      split at h
      ·rename_i hmu
       injection h with h; injection h with e1 e2; injection e2 with e2 e3; subst e1 e2 e3
       obtain ⟨o0, od, o1, o2, o3⟩ := hob
       obtain ⟨xa, c, xval, rfl, hxr, hxl, hxv⟩ := ku R hsrc o0 hx
       obtain ⟨a, cap, b', rfl, hb', hn, h0, hq⟩ := fj hs
       rw [hb] at hb'; injection hb' with hb'; subst hb'
       have hq := hq o1
       cases hβ : β[l]? with
       | none => rw [hβ] at hq; exact hq.elim
       | some bi =>
        have hq' := hq
        rw [hβ] at hq
        have hB := R.blk l bi b hβ hb
        by_cases hy : ys = []
        ·subst hy
         have hdp : dp = true := od.resolve_right (λ h => h rfl)
         subst hdp
         have hcapn : n <= cap := by
          cases bi with
          | nil => obtain ⟨rfl, rfl⟩ := hq; exact le_refl _
          | lies bk c0 =>
           obtain ⟨rfl, rfl⟩ := hq
           obtain ⟨cur, h1, h2, h3, _⟩ := hB.cells hn.1
           omega
         have hbb : ({ b with rows := b.rows ++ [], deep := b.deep && true } : Blk) = b := by cases b; simp
         rw [hbb, qr hb, append_nil, o1]
         exact ⟨_, w, β, jL he hz0 hcapn, R, StepR.refl w β H R.len, hs⟩
        ·have hm0 : ys.length ≠ 0 := λ h => hy (length_eq_zero_iff.1 h)
         have hne : (b.rows ++ ys).length ≠ b.rows.length := by rw [length_append]; omega
         rw [length_append] at o2 o3
         have hbs := hmu.2.2
         -- behind a growing append
         have grown : ∀ (val : Nat -> Nat -> Value) (cap' : Nat) (cur : Array Value), (∀ i j, i < n -> j < szT C.P e -> (val i j).oneCell' = true) ->
           (∀ (i j : Nat) (r : List AV) (av : AV), b.rows[i]? = some r -> r[j]? = some av -> Rep w (Mu X β H) β H (val i j) av /\ (b.deep = true -> RepD w (Mu X β H) (val i j) av)) -> (∀ r ∈ b.rows, r.length = szT C.P e) ->
           cur.size = cap' * szT C.P e -> n + ys.length <= cap' -> cap' <= maxLen -> (∀ i j, i < n + ys.length -> j < szT C.P e -> cur[i * szT C.P e + j]? = some (if i < n then val i j else xval (i - n) j)) ->
           ∃ β', HRel (w.drew.alloc (.cells cur e)) X β' (H.set l { b with rows := b.rows ++ ys, deep := b.deep && dp }) /\ StepR w β H (w.drew.alloc (.cells cur e)) β' (H.set l { b with rows := b.rows ++ ys, deep := b.deep && dp }) /\
            Rep (w.drew.alloc (.cells cur e)) (Mu X β' (H.set l { b with rows := b.rows ++ ys, deep := b.deep && dp })) β' (H.set l { b with rows := b.rows ++ ys, deep := b.deep && dp }) (.slice (some ⟨w.heap.size, 0, none⟩) (n + ys.length) cap') (.own l (b.rows ++ ys).length) := by
          intro val cap' cur hone hval hrl g2 g3 g4 g5
          have hk := fJ w (.cells cur e)
          have S := d4 (w := w) R hb hβ (.lies w.heap.size cap') { b with rows := b.rows ++ ys, deep := b.deep && dp } rfl rfl (by simp) (λ h => absurd h hne) (λ h => h) (λ bk c e => by injection e with e _; exact .inl (by omega)) (hk.weaken λ _ _ h => h.elim)
          refine ⟨β.set l (.lies w.heap.size cap'), d3 R hb hβ _ _ S (λ l' bk c hl hb' => hk.block bk (R.lt l' bk c hb').1 id) ?_ (λ bk c e => ?_) (λ bk c l' c' e hl hb' => ?_), S, ?_⟩
          ·refine kI S (by rw [hmu.2.1]; exact heap_alloc_new w.drew _) (by rw [hbs]; exact g2) (by simp; omega) g4 (by rw [hbs]; exact hz0) (λ r hr' => ?_) (λ i j r av hi hj => ?_)
           ·rcases mem_append.1 hr' with h | h
            ·rw [hrl r h, hbs]
            ·rw [hxl r h, hbs]
           ·simp only [hbs]
            have hil := (List.getElem?_eq_some_iff.1 hi).1
            rw [length_append] at hil
            have hjl := (List.getElem?_eq_some_iff.1 hj).1
            rcases qg hi with ⟨h1, h2⟩ | ⟨h1, h2, h3⟩
            ·have hjl' : j < szT C.P e := by rw [<- hrl r (mem_of_getElem? h2)]; exact hjl
             have hg := g5 i j (by omega) hjl'
             rw [if_pos (by omega)] at hg
             obtain ⟨q1, q2⟩ := hval i j r av h2 hj
             exact ⟨_, hg, hone i j (by omega) hjl', q1, λ hd => q2 (Bool.and_eq_true_iff.1 hd).1⟩
            ·have hjl' : j < szT C.P e := by rw [<- hxl r (mem_of_getElem? h3)]; exact hjl
             have hg := g5 i j (by omega) hjl'
             rw [if_neg (by omega), show i - n = i - b.rows.length by omega] at hg
             obtain ⟨b0, off, _, hc⟩ := hxr hm0
             exact ⟨_, hg, (hc _ j h2 hjl').2, (hxv _ j r av h3 hj).1, λ hd => (hxv _ j r av h3 hj).2 (Bool.and_eq_true_iff.1 hd).2⟩
          ·injection e with e1 e2
           subst e1
           exact ⟨by simp, λ h => Nat.lt_irrefl _ (R.base _ h)⟩
          ·injection e with e1 e2
           subst e1
           exact Nat.lt_irrefl _ (R.lt l' _ c' hb').1
          ·rw [length_append, o1]
           refine .own l _ _ cap' { b with rows := b.rows ++ ys, deep := b.deep && dp } (getElem?_set_self (List.getElem?_eq_some_iff.1 hb).1) ⟨hn.1, by simp; omega⟩ (.inr ⟨_, rfl⟩) (by omega) λ _ => ?_
           rw [getElem?_set_self (List.getElem?_eq_some_iff.1 hβ).1]
           exact ⟨rfl, rfl⟩
         cases bi with
         | nil =>
          obtain ⟨rfl, rfl⟩ := hq
          have hrows : b.rows = [] := length_eq_zero_iff.1 o1
          obtain ⟨cap', cur, g1, g2, g3, g4, g5⟩ := jK (w := w) he hz (n := 0) (cap := 0) (m := ys.length) (c := c) (ty := ty) (a := a) (λ _ _ => undef) xval (λ h0 => absurd rfl h0) hxr hm0 (by omega) (by rw [o1] at o2; exact o2) (by omega) (λ _ => ⟨rfl, rfl⟩)
          obtain ⟨β', R', S, hr⟩ := grown (λ _ _ => undef) cap' cur (λ i j hi => by omega) (λ i j r av hi => by rw [hrows] at hi; simp at hi) (λ r hr => by rw [hrows] at hr; cases hr) g2 g3 g4 g5
          exact ⟨_, _, β', g1, R', S, hr⟩
         | lies bk c0 =>
          obtain ⟨rfl, rfl⟩ := hq
          obtain ⟨cur0, h1, h2, h3, h4, h5, h6, h7⟩ := hB.cells hn.1
          have cell : ∀ i j, i < n -> j < szT C.P e -> ∃ v, cur0[i * szT C.P e + j]? = some v /\ v.oneCell' = true := by
           intro i j hi hj
           have hi' : i < b.rows.length := by omega
           have hrow : b.rows[i].length = b.sz := h6 _ (getElem_mem hi')
           obtain ⟨v, k1, k2, _⟩ := h7 i j _ _ (getElem?_eq_getElem hi') (getElem?_eq_getElem (show j < b.rows[i].length by omega))
           rw [hbs] at k1
           exact ⟨v, k1, k2⟩
          by_cases hroom : n + ys.length <= cap
          ·obtain ⟨i0, zv, z1, z2, z3, z4, z5, z6, z7⟩ := cN hz
           have hisz : i0.size = szT C.P e := by rw [z3, z5]
           obtain ⟨xb, xoff, rfl, hxc⟩ := hxr hm0
           have hfit : n * szT C.P e + (cI xval ys.length (szT C.P e)).length <= cur0.size := by
            rw [aU, h2, hbs, <- add_mul]
            exact mul_le_mul_right _ hroom
           have hrun := run_append_room (P := C.P) w t ty e i0 (cm he) z1 bk n cap cur0 (by rw [<- hmu.2.1]; exact h1) ⟨xb, xoff, none⟩ ys.length c (cI xval ys.length (szT C.P e)) (by rw [aU, hisz]) (λ j u hj => (dm hxc hj).1)
            (λ u hu => by obtain ⟨j, hj, rfl⟩ := getElem_of_mem hu; exact (dm hxc (getElem?_eq_getElem hj)).2) hroom (by rw [hisz]; exact hfit)
           rw [hisz] at hrun
           obtain ⟨cur', hcur', hget, hsize⟩ : ∃ cur', cur' = (cur0.toList.take (n * szT C.P e) ++ cI xval ys.length (szT C.P e) ++ cur0.toList.drop (n * szT C.P e + (cI xval ys.length (szT C.P e)).length)).toArray /\
             (∀ k : Nat, cur'[k]? = if n * szT C.P e <= k /\ k < n * szT C.P e + ys.length * szT C.P e then (cI xval ys.length (szT C.P e))[k - n * szT C.P e]? else cur0[k]?) /\ cur'.size = cur0.size :=
            ⟨_, rfl, λ k => by rw [l4 _ _ _ _ hfit, aU], kh _ _ _ hfit⟩
           rw [<- hcur'] at hrun
           clear hcur'
           have hM : MutB β H bk := ⟨l, cap, b, hβ, hb, hmu.1⟩
           have S := d4 (w := w) R hb hβ (.lies bk cap) { b with rows := b.rows ++ ys, deep := b.deep && dp } rfl rfl (by simp) (λ h => absurd h hne) (λ h => h) (λ bk c e => .inr ⟨c, e⟩) (fe w hM cur')
           refine ⟨_, _, β.set l (.lies bk cap), hrun, d3 R hb hβ _ _ S (λ l' bk' c hl hb' => setRow_other w bk bk' _ (λ e => hl (R.inj l' l bk' c cap hb' (e ▸ hβ)))) ?_ (λ bk' c e => ?_) (λ bk' c l' c' e hl hb' => ?_), S, ?_⟩
           ·refine kI S (setRow_heap w bk cur0 _ b.e (0, 0) h1) (by rw [hsize, h2]) (by simp; omega) h4 (by rw [hbs]; exact hz0) (λ r hr' => ?_) (λ i j r av hi hj => ?_)
            ·rcases mem_append.1 hr' with h | h
             ·exact h6 r h
             ·rw [hxl r h, hbs]
            ·simp only [hbs, hget]
             have hjl := (List.getElem?_eq_some_iff.1 hj).1
             rcases qg hi with ⟨h1', h2'⟩ | ⟨h1', h2', h3'⟩
             ·have hjl' : j < szT C.P e := by rw [<- hbs, <- h6 r (mem_of_getElem? h2')]; exact hjl
              have hlt : i * szT C.P e + j < n * szT C.P e := by
               have := mul_le_mul_right (szT C.P e) (show i + 1 <= n by omega)
               rw [add_mul] at this
               omega
              rw [if_neg (by omega)]
              obtain ⟨v, q1, q2, q3, q4⟩ := h7 i j r av h2' hj
              rw [hbs] at q1
              exact ⟨v, q1, q2, q3, λ hd => q4 (Bool.and_eq_true_iff.1 hd).1⟩
             ·have hjl' : j < szT C.P e := by rw [<- hxl r (mem_of_getElem? h3')]; exact hjl
              have hge : n * szT C.P e <= i * szT C.P e := mul_le_mul_right _ (by omega)
              have hsub : i * szT C.P e + j - n * szT C.P e = (i - n) * szT C.P e + j := by rw [sub_mul]; omega
              have hlt : (i - n) * szT C.P e + j < ys.length * szT C.P e := by
               have := mul_le_mul_right (szT C.P e) (show i - n + 1 <= ys.length by omega)
               rw [add_mul] at this
               omega
              rw [if_pos (by omega), hsub, fG _ _ _ _ _ (by omega) hjl']
              refine ⟨_, rfl, (hxc _ j (by omega) hjl').2, ?_⟩
              have := hxv (i - n) j r av (by rw [show i - n = i - b.rows.length by omega]; exact h3') hj
              exact ⟨this.1, λ hd => this.2 (Bool.and_eq_true_iff.1 hd).2⟩
           ·injection e with e1 e2
            subst e1
            exact ⟨lt_of_lt_of_le (R.lt l bk cap hβ).1 S.keeps.size, (R.lt l bk cap hβ).2⟩
           ·injection e with e1 e2
            subst e1
            exact hl (R.inj l' l bk c' cap hb' hβ)
           ·rw [length_append, o1]
            refine .own l _ _ cap { b with rows := b.rows ++ ys, deep := b.deep && dp } (getElem?_set_self (List.getElem?_eq_some_iff.1 hb).1) ⟨hn.1, by simp; omega⟩ (.inr ⟨_, rfl⟩) (by omega) λ _ => ?_
            rw [getElem?_set_self (List.getElem?_eq_some_iff.1 hβ).1]
            exact ⟨rfl, rfl⟩
          ·obtain ⟨cap', cur, g1, g2, g3, g4, g5⟩ := jK (w := w) he hz (n := n) (cap := cap) (m := ys.length) (c := c) (ty := ty) (a := some ⟨bk, 0, none⟩) (λ i j => cur0.getD (i * szT C.P e + j) undef) xval (λ _ => ⟨bk, 0, rfl, λ i j hi hj => by
            obtain ⟨v, k1, k2⟩ := cell i j hi hj
            have : cur0.getD (i * szT C.P e + j) undef = v := by simp [Array.getD_eq_getD_getElem?, k1]
            rw [show 0 + i * szT C.P e + j = i * szT C.P e + j by omega, cell_of_row w bk _ cur0 b.e (0, 0) h1, k1]
            show some v = some (cur0.getD (i * szT C.P e + j) undef) /\ (cur0.getD (i * szT C.P e + j) undef).oneCell' = true
            rw [this]
            exact ⟨rfl, k2⟩⟩) hxr hm0 (by omega) (by rw [o1] at o2; exact o2) (by omega) (λ h => by cases h)
           obtain ⟨β', R', S, hr⟩ := grown (λ i j => cur0.getD (i * szT C.P e + j) undef) cap' cur (λ i j hi hj => by
             obtain ⟨v, k1, k2⟩ := cell i j hi hj
             have : cur0.getD (i * szT C.P e + j) undef = v := by simp [Array.getD_eq_getD_getElem?, k1]
             show (cur0.getD (i * szT C.P e + j) undef).oneCell' = true
             rw [this]; exact k2) (λ i j r av hi hj => by
             obtain ⟨v, q1, q2, q3, q4⟩ := h7 i j r av hi hj
             rw [hbs] at q1
             have : cur0.getD (i * szT C.P e + j) undef = v := by simp [Array.getD_eq_getD_getElem?, q1]
             show Rep w (Mu X β H) β H (cur0.getD (i * szT C.P e + j) undef) av /\ (b.deep = true -> RepD w (Mu X β H) (cur0.getD (i * szT C.P e + j) undef) av)
             rw [this]; exact ⟨q3, q4⟩) (λ r hr => by rw [<- hbs]; exact h6 r hr) g2 g3 g4 g5
           exact ⟨_, _, β', g1, R', S, hr⟩
      ·cases h
     ·cases h
    ·cases h
   ·cases h
 ·cases h
theorem qP (R : HRel w X β H) {l bk cap : Nat} {b : Blk} (hz : 0 < b.sz) (hb : H[l]? = some b) (hβ : β[l]? = some (BI.lies bk cap)) (hmu : b.mu = true) (off : Nat) (ys : List (List AV)) (vs : List Value) (dp : Bool) (hlen : off + ys.length <= b.rows.length) (hvl : vs.length = ys.length * b.sz)
  (hone : ∀ v ∈ vs, v.oneCell' = true) (hyl : ∀ r ∈ ys, r.length = b.sz) (hv : ∀ (i j : Nat) (r : List AV) (av : AV), ys[i]? = some r -> r[j]? = some av -> ∃ v, vs[i * b.sz + j]? = some v /\ Rep w (Mu X β H) β H v av /\ (dp = true -> RepD w (Mu X β H) v av)) :
  ∃ w' β', (storeCells ⟨bk, off * b.sz, none⟩ vs).run C.P w = .ok () w' /\ HRel w' X β' (H.set l { b with rows := b.rows.take off ++ ys ++ b.rows.drop (off + ys.length), deep := b.deep && dp }) /\ StepR w β H w' β' (H.set l { b with rows := b.rows.take off ++ ys ++ b.rows.drop (off + ys.length), deep := b.deep && dp }) := by
 have hB := R.blk l _ b hβ hb
 obtain ⟨cur, h1, h2, h3, h4, h5, h6, h7⟩ := hB.cells hz
 have hmulle : ∀ i j m : Nat, j < b.sz -> i < m -> i * b.sz + j < m * b.sz := λ i j m hj hi => by
  have := mul_le_mul_right b.sz (show i + 1 <= m from hi)
  rw [add_mul] at this
  omega
 have hfit : off * b.sz + 0 + vs.length <= cur.size := by
  rw [h2, hvl, add_zero, <- add_mul]
  exact mul_le_mul_right _ (by omega)
 have hst := run_storeCells_at C.P bk (off * b.sz) b.e vs 0 cur w h1 hfit hone
 simp only [add_zero] at hst hfit
 obtain ⟨cur', hcur', hget, hsize⟩ : ∃ cur', cur' = (cur.toList.take (off * b.sz) ++ vs ++ cur.toList.drop (off * b.sz + vs.length)).toArray /\
   (∀ k : Nat, cur'[k]? = if off * b.sz <= k /\ k < off * b.sz + vs.length then vs[k - off * b.sz]? else cur[k]?) /\ cur'.size = cur.size :=
  ⟨_, rfl, λ k => by rw [l4 _ _ _ _ hfit], kh _ _ _ hfit⟩
 rw [<- hcur'] at hst
 clear hcur'
 have hM : MutB β H bk := ⟨l, cap, b, hβ, hb, hmu⟩
 have hrl : (b.rows.take off ++ ys ++ b.rows.drop (off + ys.length)).length = b.rows.length := by simp; omega
 have S := d4 (w := w) R hb hβ (.lies bk cap) { b with rows := b.rows.take off ++ ys ++ b.rows.drop (off + ys.length), deep := b.deep && dp } rfl rfl (by simp only [hrl]; exact le_refl _) (λ _ => rfl) (λ h => h)
  (λ bk' c e => .inr ⟨c, e⟩) (fe w hM cur')
 refine ⟨_, β.set l (.lies bk cap), hst, d3 R hb hβ _ _ S (λ l' bk' c hl hb' => setRow_other w bk bk' _ (λ e => hl (R.inj l' l bk' c cap hb' (e ▸ hβ)))) ?_ (λ bk' c e => ?_) (λ bk' c l' c' e hl hb' => ?_), S⟩
 ·have rowget : ∀ i r, (b.rows.take off ++ ys ++ b.rows.drop (off + ys.length))[i]? = some r -> (i < off /\ b.rows[i]? = some r) ∨ (off <= i /\ i < off + ys.length /\ ys[i - off]? = some r) ∨ (off + ys.length <= i /\ b.rows[i]? = some r) := by
   intro i r hr
   have hto : (b.rows.take off).length = off := by simp; omega
   rcases lt_or_ge i off with hi | hi
   ·rw [List.append_assoc, getElem?_append_left (by omega), getElem?_take, if_pos hi] at hr
    exact .inl ⟨hi, hr⟩
   ·rcases lt_or_ge i (off + ys.length) with hi2 | hi2
    ·rw [getElem?_append_left (by simp; omega), getElem?_append_right (by omega), hto] at hr
     exact .inr (.inl ⟨hi, hi2, hr⟩)
    ·rw [getElem?_append_right (by simp; omega), getElem?_drop] at hr
     simp only [length_append, hto] at hr
     rw [show off + ys.length + (i - (off + ys.length)) = i by omega] at hr
     exact .inr (.inr ⟨hi2, hr⟩)
  refine .inl ⟨_, setRow_heap w bk cur _ b.e (0, 0) h1, by rw [hsize, h2], by rw [hrl]; exact h3, h4, h5, λ r hr => ?_, λ i' j r av hr hj => ?_⟩
  ·obtain ⟨i, hi⟩ := List.getElem?_of_mem hr
   rcases rowget i r hi with ⟨_, h⟩ | ⟨_, _, h⟩ | ⟨_, h⟩
   ·exact h6 r (mem_of_getElem? h)
   ·exact hyl r (mem_of_getElem? h)
   ·exact h6 r (mem_of_getElem? h)
  ·simp only [hget]
   have old : b.rows[i']? = some r -> ¬ (off * b.sz <= i' * b.sz + j /\ i' * b.sz + j < off * b.sz + vs.length) -> ∃ v, (if off * b.sz <= i' * b.sz + j /\ i' * b.sz + j < off * b.sz + vs.length then vs[i' * b.sz + j - off * b.sz]? else cur[i' * b.sz + j]?) = some v /\ v.oneCell' = true /\ Rep (w.setRow bk cur') (Mu X (β.set l (.lies bk cap)) (H.set l { b with rows := b.rows.take off ++ ys ++ b.rows.drop (off + ys.length), deep := b.deep && dp })) (β.set l (.lies bk cap)) (H.set l { b with rows := b.rows.take off ++ ys ++ b.rows.drop (off + ys.length), deep := b.deep && dp }) v av /\ ((b.deep && dp) = true -> RepD (w.setRow bk cur') (Mu X (β.set l (.lies bk cap)) (H.set l { b with rows := b.rows.take off ++ ys ++ b.rows.drop (off + ys.length), deep := b.deep && dp })) v av) := by
    intro hr hn
    rw [if_neg hn]
    obtain ⟨v, q1, q2, q3, q4⟩ := h7 i' j r av hr hj
    refine ⟨v, q1, q2, q3.keep S, λ hd => ?_⟩
    simp only [Bool.and_eq_true] at hd
    exact (q4 hd.1).keep (λ b hb hn => S.keeps.block b hb (λ hm => hn (.inr hm))) S.keeps.size (λ b hb => S.mu b hb)
   have hjl : b.rows[i']? = some r ∨ ys[i' - off]? = some r -> j < b.sz := λ h => by
    have := (List.getElem?_eq_some_iff.1 hj).1
    rcases h with h | h
    ·rw [h6 r (mem_of_getElem? h)] at this; exact this
    ·rw [hyl r (mem_of_getElem? h)] at this; exact this
   rcases rowget i' r hr with ⟨hi, h⟩ | ⟨hi, hi2, h⟩ | ⟨hi, h⟩
   ·refine old h ?_
    have := hmulle i' j off (hjl (.inl h)) hi
    omega
   ·have hj' := hjl (.inr h)
    have e1 : off * b.sz + (i' - off) * b.sz = i' * b.sz := by rw [<- add_mul]; congr 1; omega
    have e2 := hmulle (i' - off) j ys.length hj' (by omega)
    obtain ⟨v, q1, q3, q4⟩ := hv (i' - off) j r av h hj
    rw [if_pos (by omega), show i' * b.sz + j - off * b.sz = (i' - off) * b.sz + j by omega]
    refine ⟨v, q1, hone v (mem_of_getElem? q1), q3.keep S, λ hd => ?_⟩
    simp only [Bool.and_eq_true] at hd
    exact (q4 hd.2).keep (λ b hb hn => S.keeps.block b hb (λ hm => hn (.inr hm))) S.keeps.size (λ b hb => S.mu b hb)
   ·refine old h ?_
    have := mul_le_mul_right b.sz hi
    rw [add_mul] at this
    omega
 ·injection e with e1 e2
  subst e1
  exact ⟨lt_of_lt_of_le (R.lt l bk cap hβ).1 S.keeps.size, (R.lt l bk cap hβ).2⟩
 ·injection e with e1 e2
  subst e1
  exact hl (R.inj l' l bk c' cap hb' hβ)
theorem sR (R : HRel w X β H) {t : TypeId} {s : AV} {ob : Prop} {r : AV} {H' : List Blk} (h : oY C H t s = some (ob, r, H')) (hob : ob) {vs : Value} (hs : Rep w (Mu X β H) β H vs s) (ty : TypeId) :
  ∃ w' β', (Builtin.clear_ #[t] ty #[vs]).run C.P w = .ok (.tuple #[]) w' /\ HRel w' X β' H' /\ StepR w β H w' β' H' /\ r = .tup [] := by
 unfold oY at h
 split at h
 ·rename_i e l n sz off len he
  split at h
  ·rename_i z b hz hb
   split at h
   ·rename_i hc
    obtain ⟨hmu, hsz⟩ := hc
    injection h with h; injection h with e1 e2; injection e2 with e2 e3; subst e1 e2 e3
    obtain ⟨o1, o2⟩ := hob
    obtain ⟨i, zv, z1, z2, z3, z4, z5, z6, z7⟩ := cN hz
    obtain ⟨a, cap, b', rfl, hb', hn, hle, h0, hcap, hx⟩ := dR hs
    rw [hb] at hb'; injection hb' with hb'; subst hb'
    have hx := hx o1 o2
    have hzr : (zeroValue e).run C.P w = .ok zv w := by simp [zeroValue, typeInfo, z1, z2]
    have hbsz : b.sz = z.length := by rw [o2, hsz, z5]
    rcases Nat.eq_zero_or_pos len with hl0 | hl0
    ·subst hl0
     have hbb : ({ b with rows := b.rows.take off ++ List.replicate 0 z ++ b.rows.drop (off + 0), deep := b.deep && z.all AV.isDeep } : Blk) = { b with deep := b.deep && z.all AV.isDeep } := by simp
     rw [hbb]
     have hβ : ∃ bi, β[l]? = some bi := by
      cases hβ : β[l]? with
      | none => rw [hβ] at hx; exact hx.elim
      | some bi => exact ⟨bi, rfl⟩
     obtain ⟨bi, hβ⟩ := hβ
     have hB := R.blk l bi b hβ hb
     have S := d4 (w := w) (w' := w) R hb hβ bi { b with deep := b.deep && z.all AV.isDeep } rfl rfl (le_refl _) (λ _ => rfl) (λ h => h) (λ bk c e => .inr ⟨c, e⟩) (Keeps.refl _ _)
     refine ⟨w, β.set l bi, ?_, d3 R hb hβ _ _ S (λ _ _ _ _ _ => rfl) ?_ (λ bk c e => by subst e; exact R.lt l bk c hβ) (λ bk c l' c' e hl hb' => by subst e; exact hl (R.inj l' l bk c' c hb' hβ)), S, rfl⟩
     ·cases a <;> simp [Builtin.clear_, run_underlying (cm he)]
     ·cases bi with
      | nil => exact hB
      | lies bk c =>
       obtain ⟨cur, h1, h2, h3, h4, h5, h6, h7⟩ := hB.cells hn.1
       refine .inl ⟨cur, h1, h2, h3, h4, h5, h6, λ i j r av hr hj => ?_⟩
       obtain ⟨v, q1, q2, q3, q4⟩ := h7 i j r av hr hj
       refine ⟨v, q1, q2, q3.keep S, λ hd => ?_⟩
       simp only [Bool.and_eq_true] at hd
       exact (q4 hd.1).keep (λ b hb hn => S.keeps.block b hb (λ hm => hn (.inr hm))) S.keeps.size (λ b hb => S.mu b hb)
    ·cases hβ : β[l]? with
     | none => rw [hβ] at hx; exact hx.elim
     | some bi =>
      rw [hβ] at hx
      cases bi with
      | nil => have := hx.2.1; omega
      | lies bk c =>
       obtain ⟨hoc, rfl, hadr⟩ := hx
       have hadr := hadr (by omega)
       subst hadr
       have hzget : ∀ i j, i < len -> j < z.length -> (Builtin.zeroCells zv.cells len).toList[i * z.length + j]? = zv.cells[j]? := by
        intro i j hi hj
        have hlt : i * z.length + j < len * z.length := by
         have := mul_le_mul_right z.length (show i + 1 <= len from hi)
         rw [add_mul] at this
         omega
        rw [Array.getElem?_toList]
        simp only [Builtin.zeroCells, Array.getElem?_map]
        have hm : (i * z.length + j) % zv.cells.size = j := by rw [z6, Nat.add_comm, Nat.add_mul_mod_self_right, Nat.mod_eq_of_lt hj]
        rw [Array.getElem?_range, if_pos (by rw [z6]; first | exact hlt | (rw [mul_comm z.length]; exact hlt))]
        simp only [map_some, hm]
        rw [getElem!_pos zv.cells j (by omega), Array.getElem?_eq_getElem (by omega)]
       have hzlen : (Builtin.zeroCells zv.cells len).toList.length = len * z.length := by simp [size_zeroCells, z6]
       obtain ⟨w', β', g1, g2, g3⟩ := qP (C := C) R (by omega) hb hβ hmu off (List.replicate len z) (Builtin.zeroCells zv.cells len).toList (z.all AV.isDeep) (by simp; omega) (by rw [hzlen, hbsz]; simp) (λ v hv => by
        obtain ⟨k, hk⟩ := List.getElem?_of_mem hv
        have hk' := (List.getElem?_eq_some_iff.1 hk).1
        rw [hzlen] at hk'
        have hzp : 0 < z.length := by omega
        have hkm : k % z.length < z.length := Nat.mod_lt _ hzp
        have hkd : k / z.length < len := Nat.div_lt_of_lt_mul (by rw [mul_comm]; exact hk')
        have e := hzget (k / z.length) (k % z.length) hkd hkm
        rw [show k / z.length * z.length + k % z.length = k by rw [mul_comm]; exact Nat.div_add_mod k _] at e
        rw [hk] at e
        obtain ⟨v', k1, k2, k3⟩ := z7 w (λ _ => False) (k % z.length) _ (getElem?_eq_getElem hkm)
        rw [k1] at e
        injection e with e
        rw [e]; exact k2) (λ r hr => by rw [List.eq_of_mem_replicate hr, hbsz]) (λ i j r av hi hj => by
        have hi' := (List.getElem?_eq_some_iff.1 hi).1
        rw [List.length_replicate] at hi'
        have hr : r = z := List.eq_of_mem_replicate (mem_of_getElem? hi)
        subst hr
        have hj' := (List.getElem?_eq_some_iff.1 hj).1
        obtain ⟨v, k1, k2, k3⟩ := z7 w (Mu X β H) j av hj
        rw [hbsz, hzget i j hi' hj']
        exact ⟨v, k1, .deep k3, λ _ => k3⟩)
       refine ⟨w', β', ?_, ?_, ?_, rfl⟩
       ·obtain ⟨m, rfl⟩ : ∃ m, len = m + 1 := ⟨len - 1, by omega⟩
        rw [<- o2]
        simp [Builtin.clear_, run_underlying (cm he), hzr, g1]
       ·simpa using g2
       ·simpa using g3
   ·cases h
  ·cases h
 ·cases h
theorem wq {rows ys : List (List AV)} {len i : Nat} {r : List AV} (h : len + ys.length <= rows.length) (hi : (rows.take len ++ ys ++ rows.drop (len + ys.length))[i]? = some r) : (i < len /\ rows[i]? = some r) ∨ (len <= i /\ i < len + ys.length /\ ys[i - len]? = some r) ∨ (len + ys.length <= i /\ rows[i]? = some r) := by
 have ht : (rows.take len).length = len := by rw [length_take]; omega
 rcases lt_or_ge i len with h1 | h1
 ·rw [List.append_assoc, getElem?_append_left (by omega), getElem?_take, if_pos h1] at hi
  exact .inl ⟨h1, hi⟩
 ·rcases lt_or_ge i (len + ys.length) with h2 | h2
  ·rw [getElem?_append_left (by rw [length_append]; omega), getElem?_append_right (by omega), ht] at hi
   exact .inr (.inl ⟨h1, h2, hi⟩)
  ·rw [getElem?_append_right (by rw [length_append]; omega), length_append, ht, getElem?_drop, show len + ys.length + (i - (len + ys.length)) = i by omega] at hi
   exact .inr (.inr ⟨h2, hi⟩)
theorem Af {l n sz : Nat} {b : Blk} {v : Value} (h : Rep w (Mu X β H) β H v (.osl l n sz 0 n)) (hb : H[l]? = some b) (hn : b.rows.length = n) (hs : b.sz = sz) (h0 : 0 < n) : Rep w (Mu X β H) β H v (.own l n) := by
 obtain ⟨a, cap, b', rfl, hb', k1, k2, k3, k4, k5⟩ := dR h
 rw [hb] at hb'; injection hb' with hb'; subst hb'
 refine .own l n a cap b hb k1 (k3.imp Eq.symm id) (by omega) λ _ => ?_
 have hq := k5 hn hs
 cases hβ : β[l]? with
 | none => rw [hβ] at hq; exact hq.elim
 | some bi =>
  rw [hβ] at hq
  cases bi with
  | nil => obtain ⟨_, q2, _⟩ := hq; omega
  | lies bk c =>
   obtain ⟨q1, q2, q3⟩ := hq
   refine ⟨?_, by omega⟩
   rw [q3 (by omega), zero_mul]
theorem vf (R : HRel w X β H) {t e : TypeId} {z : List AV} {l n sz len off' len' : Nat} {b : Blk} (he : elT C.P t = some e) (hz : zT C.P e = some z) (hb : H[l]? = some b) (c2 : b.mu = true) (c3 : b.e = e) (c4 : b.sz = szT C.P e) (c5 : sz = szT C.P e) (o1 : b.rows.length = n) (o2 : len + len' <= n)
  {vs vx : Value} (hs : Rep w (Mu X β H) β H vs (.osl l n sz 0 len)) (hx : Rep w (Mu X β H) β H vx (.osl l n (szT C.P e) off' len')) (ty : TypeId) :
  ∃ u w' β', (Builtin.append_ #[t, t] ty #[vs, vx]).run C.P w = .ok u w' /\ HRel w' X β' (H.set l { b with rows := b.rows.take len ++ (b.rows.drop off').take len' ++ b.rows.drop (len + len') }) /\ StepR w β H w' β' (H.set l { b with rows := b.rows.take len ++ (b.rows.drop off').take len' ++ b.rows.drop (len + len') }) /\
   Rep w' (Mu X β' (H.set l { b with rows := b.rows.take len ++ (b.rows.drop off').take len' ++ b.rows.drop (len + len') })) β' (H.set l { b with rows := b.rows.take len ++ (b.rows.drop off').take len' ++ b.rows.drop (len + len') }) u (.osl l n sz 0 (len + len')) := by
 have hz0 : 0 < szT C.P e := by
  obtain ⟨i, zv, z1, z2, z3, z4, z5, z6, z7⟩ := cN hz
  omega
 obtain ⟨xa0, xcap0, xb0, _, xhb, _, xle, _, _, _⟩ := dR hx
 obtain ⟨xa, c, xval, rfl, hxr, hxl, hxv⟩ := ku (C := C) (e := e) (x := .osl l n (szT C.P e) off' len') (ob := b.rows.length = n) (ys := (b.rows.drop off').take len') (dp := b.deep) R (by simp only [hb, c4, and_self, if_true]) o1 hx
 have hyl : ((b.rows.drop off').take len').length = len' := by rw [length_take, length_drop]; omega
 generalize (b.rows.drop off').take len' = ys at hxr hxl hxv hyl ⊢
 subst hyl
 obtain ⟨a, cap, b', rfl, hb', k1, k2, k3, k4, k5⟩ := dR hs
 rw [hb] at hb'; injection hb' with hb'; subst hb'
 have hq := k5 o1 (by rw [c4, c5])
 by_cases hm0 : ys.length = 0
 ·have hy : ys = [] := length_eq_zero_iff.1 hm0
  subst hy
  have hbb : ({ b with rows := b.rows.take len ++ [] ++ b.rows.drop (len + 0) } : Blk) = b := by cases b; simp
  simp only [length_nil] at hbb ⊢
  rw [hbb, qr hb]
  exact ⟨_, w, β, jL he hz0 (by omega), R, StepR.refl w β H R.len, hs⟩
 cases hβ : β[l]? with
 | none => rw [hβ] at hq; exact hq.elim
 | some bi =>
  rw [hβ] at hq
  have hB := R.blk l bi b hβ hb
  cases bi with
  | nil => have h2 : b.rows = [] := hB.1; rw [h2] at o1; simp at o1; omega
  | lies bk c0 =>
   obtain ⟨q1, q2, q3⟩ := hq
   obtain ⟨cur0, h1, h2, h3, h4, h5, h6, h7⟩ := hB.cells k1.1
   have ha := q3 (by omega)
   rw [zero_mul] at ha
   subst ha
   obtain rfl : cap = c0 := by omega
   obtain ⟨i0, zv, z1, z2, z3, z4, z5, z6, z7⟩ := cN hz
   have hisz : i0.size = szT C.P e := by rw [z3, z5]
   obtain ⟨xb, xoff, rfl, hxc⟩ := hxr hm0
   have hroom : len + ys.length <= cap := by omega
   have hfit : len * szT C.P e + (cI xval ys.length (szT C.P e)).length <= cur0.size := by
    rw [aU, h2, c4, <- add_mul]
    exact mul_le_mul_right _ hroom
   have hrun := run_append_room (P := C.P) w t ty e i0 (cm he) z1 bk len cap cur0 (by rw [<- c3]; exact h1) ⟨xb, xoff, none⟩ ys.length c (cI xval ys.length (szT C.P e)) (by rw [aU, hisz]) (λ j u hj => (dm hxc hj).1)
    (λ u hu => by obtain ⟨j, hj, rfl⟩ := getElem_of_mem hu; exact (dm hxc (getElem?_eq_getElem hj)).2) hroom (by rw [hisz]; exact hfit)
   rw [hisz] at hrun
   obtain ⟨cur', hcur', hget, hsize⟩ : ∃ cur', cur' = (cur0.toList.take (len * szT C.P e) ++ cI xval ys.length (szT C.P e) ++ cur0.toList.drop (len * szT C.P e + (cI xval ys.length (szT C.P e)).length)).toArray /\
     (∀ k : Nat, cur'[k]? = if len * szT C.P e <= k /\ k < len * szT C.P e + ys.length * szT C.P e then (cI xval ys.length (szT C.P e))[k - len * szT C.P e]? else cur0[k]?) /\ cur'.size = cur0.size :=
    ⟨_, rfl, λ k => by rw [l4 _ _ _ _ hfit, aU], kh _ _ _ hfit⟩
   rw [<- hcur'] at hrun
   clear hcur'
   have hlen : (b.rows.take len ++ ys ++ b.rows.drop (len + ys.length)).length = b.rows.length := by
    rw [length_append, length_append, length_take, length_drop]; omega
   have hM : MutB β H bk := ⟨l, cap, b, hβ, hb, c2⟩
   have S := d4 (w := w) R hb hβ (.lies bk cap) { b with rows := b.rows.take len ++ ys ++ b.rows.drop (len + ys.length) } rfl rfl (by rw [hlen]; exact le_refl _) (λ _ => rfl) (λ h => h) (λ bk c e => .inr ⟨c, e⟩) (fe w hM cur')
   refine ⟨_, _, β.set l (.lies bk cap), hrun, d3 R hb hβ _ _ S (λ l' bk' c hl hb' => setRow_other w bk bk' _ (λ e => hl (R.inj l' l bk' c cap hb' (e ▸ hβ)))) ?_ (λ bk' c e => ?_) (λ bk' c l' c' e hl hb' => ?_), S, ?_⟩
   ·refine kI S (setRow_heap w bk cur0 _ b.e (0, 0) h1) (by rw [hsize, h2]) (by rw [hlen]; exact h3) h4 (by rw [c4]; exact hz0) (λ r hr' => ?_) (λ i j r av hi hj => ?_)
    ·rcases mem_append.1 hr' with h | h
     ·rcases mem_append.1 h with h | h
      ·exact h6 r (mem_of_mem_take h)
      ·rw [hxl r h, c4]
     ·exact h6 r (List.mem_of_mem_drop h)
    ·simp only [c4, hget]
     have hjl := (List.getElem?_eq_some_iff.1 hj).1
     rcases wq (by omega) hi with ⟨h1', h2'⟩ | ⟨h1', h2', h3'⟩ | ⟨h1', h2'⟩
     ·have hjl' : j < szT C.P e := by rw [<- c4, <- h6 r (mem_of_getElem? h2')]; exact hjl
      have hlt : i * szT C.P e + j < len * szT C.P e := by
       have := mul_le_mul_right (szT C.P e) (show i + 1 <= len by omega)
       rw [add_mul] at this
       omega
      rw [if_neg (by omega)]
      obtain ⟨v, q1, q2, q3, q4⟩ := h7 i j r av h2' hj
      rw [c4] at q1
      exact ⟨v, q1, q2, q3, q4⟩
     ·have hjl' : j < szT C.P e := by rw [<- hxl r (mem_of_getElem? h3')]; exact hjl
      have hge : len * szT C.P e <= i * szT C.P e := mul_le_mul_right _ (by omega)
      have hsub : i * szT C.P e + j - len * szT C.P e = (i - len) * szT C.P e + j := by rw [sub_mul]; omega
      have hlt : (i - len) * szT C.P e + j < ys.length * szT C.P e := by
       have := mul_le_mul_right (szT C.P e) (show i - len + 1 <= ys.length by omega)
       rw [add_mul] at this
       omega
      rw [if_pos (by omega), hsub, fG _ _ _ _ _ (by omega) hjl']
      refine ⟨_, rfl, (hxc _ j (by omega) hjl').2, ?_⟩
      exact hxv (i - len) j r av h3' hj
     ·have hjl' : j < szT C.P e := by rw [<- c4, <- h6 r (mem_of_getElem? h2')]; exact hjl
      have hge : (len + ys.length) * szT C.P e <= i * szT C.P e := mul_le_mul_right _ h1'
      rw [add_mul] at hge
      rw [if_neg (by omega)]
      obtain ⟨v, q1, q2, q3, q4⟩ := h7 i j r av h2' hj
      rw [c4] at q1
      exact ⟨v, q1, q2, q3, q4⟩
   ·injection e with e1 e2
    subst e1
    exact ⟨lt_of_lt_of_le (R.lt l bk cap hβ).1 S.keeps.size, (R.lt l bk cap hβ).2⟩
   ·injection e with e1 e2
    subst e1
    exact hl (R.inj l' l bk c' cap hb' hβ)
   ·have hb2 : (H.set l { b with rows := b.rows.take len ++ ys ++ b.rows.drop (len + ys.length) })[l]? = some { b with rows := b.rows.take len ++ ys ++ b.rows.drop (len + ys.length) } := getElem?_set_self (List.getElem?_eq_some_iff.1 hb).1
    refine .osl l n sz 0 (len + ys.length) _ cap { b with rows := b.rows.take len ++ ys ++ b.rows.drop (len + ys.length) } hb2 (by rw [hlen]; exact k1) (by omega) (.inr ⟨_, rfl⟩) (by omega) λ _ _ => ?_
    rw [getElem?_set_self (List.getElem?_eq_some_iff.1 hβ).1]
    exact ⟨by omega, by omega, λ _ => by rw [zero_mul]⟩
theorem uO (R : HRel w X β H) {t : TypeId} {s x : AV} {ob : Prop} {r : AV} {H' : List Blk} (h : nq C H t s x = some (ob, r, H')) (hob : ob) {vs vx : Value} (hs : Rep w (Mu X β H) β H vs s) (hx : Rep w (Mu X β H) β H vx x) (ty : TypeId) :
  ∃ u w' β', (Builtin.append_ #[t, t] ty #[vs, vx]).run C.P w = .ok u w' /\ HRel w' X β' H' /\ StepR w β H w' β' H' /\ Rep w' (Mu X β' H') β' H' u r := by
 unfold nq at h
 split at h
 case h_2 => exact kY R h hob hs hx ty
 rename_i l n sz off len
 split at h
 ·cases h
 rename_i hoff
 have hoff : off = 0 := by omega
 subst hoff
 split at h
 ·rename_i hln
  subst hln
  split at h
  ·rename_i ob' r' H'' b hap hb
   injection h with h; injection h with e1 e2; injection e2 with e2 e3; subst e1 e2 e3
   obtain ⟨o1, o2, o3, o4⟩ := hob
   exact kY R hap o1 (Af hs hb o3 o4 o2) hx ty
  ·cases h
 rename_i hln
 split at h
 case h_3 => cases h
 case h_2 =>
  rename_i e b l' n' sz' off' len' he hb
  split at h
  ·cases h
  rename_i hz
  obtain ⟨z, hz⟩ : ∃ z, zT C.P e = some z := by cases hz' : zT C.P e <;> simp_all
  split at h
  case isFalse => cases h
  rename_i hc
  obtain ⟨rfl, rfl, rfl, c2, c3, c4, c5⟩ := hc
  injection h with h; injection h with e1 e2; injection e2 with e2 e3; subst e1 e2 e3
  exact vf R he hz hb c2 c3 c4 c5 hob.1 hob.2 hs hx ty
 rename_i e b sx fx ys he hb
 split at h
 ·cases h
 rename_i hz
 obtain ⟨z, hz⟩ : ∃ z, zT C.P e = some z := by cases hz' : zT C.P e <;> simp_all
 split at h
 case isFalse => cases h
 rename_i hc
 obtain ⟨c1, c2, c3, c4, c5⟩ := hc
 injection h with h; injection h with e1 e2; injection e2 with e2 e3; subst e1 e2 e3
 obtain ⟨o1, o2, o3⟩ := hob
 have hz0 : 0 < szT C.P e := by
  obtain ⟨i, zv, z1, z2, z3, z4, z5, z6, z7⟩ := cN hz
  omega
 have hm0 : ys.length ≠ 0 := λ h => o2 (length_eq_zero_iff.1 h)
 obtain ⟨xa, c, xval, rfl, hxr, hxl, hxv⟩ := ku (C := C) (e := e) (x := .slice sx fx ys) (ob := True) (ys := ys) (dp := true) R (by simp only [if_pos c1]) trivial hx
 obtain ⟨a, cap, b', rfl, hb', k1, k2, k3, k4, k5⟩ := dR hs
 rw [hb] at hb'; injection hb' with hb'; subst hb'
 have hq := k5 o1 (by rw [c4, c5])
 cases hβ : β[l]? with
 | none => rw [hβ] at hq; exact hq.elim
 | some bi =>
  rw [hβ] at hq
  have hB := R.blk l bi b hβ hb
  cases bi with
  | nil => have h2 : b.rows = [] := hB.1; rw [h2] at o1; simp at o1; omega
  | lies bk c0 =>
   obtain ⟨q1, q2, q3⟩ := hq
   obtain ⟨cur0, h1, h2, h3, h4, h5, h6, h7⟩ := hB.cells k1.1
   have ha := q3 (by omega)
   rw [zero_mul] at ha
   subst ha
   obtain rfl : cap = c0 := by omega
   obtain ⟨i0, zv, z1, z2, z3, z4, z5, z6, z7⟩ := cN hz
   have hisz : i0.size = szT C.P e := by rw [z3, z5]
   obtain ⟨xb, xoff, rfl, hxc⟩ := hxr hm0
   have hroom : len + ys.length <= cap := by omega
   have hfit : len * szT C.P e + (cI xval ys.length (szT C.P e)).length <= cur0.size := by
    rw [aU, h2, c4, <- add_mul]
    exact mul_le_mul_right _ hroom
   have hrun := run_append_room (P := C.P) w t ty e i0 (cm he) z1 bk len cap cur0 (by rw [<- c3]; exact h1) ⟨xb, xoff, none⟩ ys.length c (cI xval ys.length (szT C.P e)) (by rw [aU, hisz]) (λ j u hj => (dm hxc hj).1)
    (λ u hu => by obtain ⟨j, hj, rfl⟩ := getElem_of_mem hu; exact (dm hxc (getElem?_eq_getElem hj)).2) hroom (by rw [hisz]; exact hfit)
   rw [hisz] at hrun
   obtain ⟨cur', hcur', hget, hsize⟩ : ∃ cur', cur' = (cur0.toList.take (len * szT C.P e) ++ cI xval ys.length (szT C.P e) ++ cur0.toList.drop (len * szT C.P e + (cI xval ys.length (szT C.P e)).length)).toArray /\
     (∀ k : Nat, cur'[k]? = if len * szT C.P e <= k /\ k < len * szT C.P e + ys.length * szT C.P e then (cI xval ys.length (szT C.P e))[k - len * szT C.P e]? else cur0[k]?) /\ cur'.size = cur0.size :=
    ⟨_, rfl, λ k => by rw [l4 _ _ _ _ hfit, aU], kh _ _ _ hfit⟩
   rw [<- hcur'] at hrun
   clear hcur'
   have hlen : (b.rows.take len ++ ys ++ b.rows.drop (len + ys.length)).length = b.rows.length := by
    rw [length_append, length_append, length_take, length_drop]; omega
   have hM : MutB β H bk := ⟨l, cap, b, hβ, hb, c2⟩
   have S := d4 (w := w) R hb hβ (.lies bk cap) { b with rows := b.rows.take len ++ ys ++ b.rows.drop (len + ys.length) } rfl rfl (by rw [hlen]; exact le_refl _) (λ _ => rfl) (λ h => h) (λ bk c e => .inr ⟨c, e⟩) (fe w hM cur')
   refine ⟨_, _, β.set l (.lies bk cap), hrun, d3 R hb hβ _ _ S (λ l' bk' c hl hb' => setRow_other w bk bk' _ (λ e => hl (R.inj l' l bk' c cap hb' (e ▸ hβ)))) ?_ (λ bk' c e => ?_) (λ bk' c l' c' e hl hb' => ?_), S, ?_⟩
   ·refine kI S (setRow_heap w bk cur0 _ b.e (0, 0) h1) (by rw [hsize, h2]) (by rw [hlen]; exact h3) h4 (by rw [c4]; exact hz0) (λ r hr' => ?_) (λ i j r av hi hj => ?_)
    ·rcases mem_append.1 hr' with h | h
     ·rcases mem_append.1 h with h | h
      ·exact h6 r (mem_of_mem_take h)
      ·rw [hxl r h, c4]
     ·exact h6 r (List.mem_of_mem_drop h)
    ·simp only [c4, hget]
     have hjl := (List.getElem?_eq_some_iff.1 hj).1
     rcases wq (by omega) hi with ⟨h1', h2'⟩ | ⟨h1', h2', h3'⟩ | ⟨h1', h2'⟩
     ·have hjl' : j < szT C.P e := by rw [<- c4, <- h6 r (mem_of_getElem? h2')]; exact hjl
      have hlt : i * szT C.P e + j < len * szT C.P e := by
       have := mul_le_mul_right (szT C.P e) (show i + 1 <= len by omega)
       rw [add_mul] at this
       omega
      rw [if_neg (by omega)]
      obtain ⟨v, q1, q2, q3, q4⟩ := h7 i j r av h2' hj
      rw [c4] at q1
      exact ⟨v, q1, q2, q3, q4⟩
     ·have hjl' : j < szT C.P e := by rw [<- hxl r (mem_of_getElem? h3')]; exact hjl
      have hge : len * szT C.P e <= i * szT C.P e := mul_le_mul_right _ (by omega)
      have hsub : i * szT C.P e + j - len * szT C.P e = (i - len) * szT C.P e + j := by rw [sub_mul]; omega
      have hlt : (i - len) * szT C.P e + j < ys.length * szT C.P e := by
       have := mul_le_mul_right (szT C.P e) (show i - len + 1 <= ys.length by omega)
       rw [add_mul] at this
       omega
      rw [if_pos (by omega), hsub, fG _ _ _ _ _ (by omega) hjl']
      refine ⟨_, rfl, (hxc _ j (by omega) hjl').2, ?_⟩
      have := hxv (i - len) j r av h3' hj
      exact ⟨this.1, λ hd => this.2 rfl⟩
     ·have hjl' : j < szT C.P e := by rw [<- c4, <- h6 r (mem_of_getElem? h2')]; exact hjl
      have hge : (len + ys.length) * szT C.P e <= i * szT C.P e := mul_le_mul_right _ h1'
      rw [add_mul] at hge
      rw [if_neg (by omega)]
      obtain ⟨v, q1, q2, q3, q4⟩ := h7 i j r av h2' hj
      rw [c4] at q1
      exact ⟨v, q1, q2, q3, q4⟩
   ·injection e with e1 e2
    subst e1
    exact ⟨lt_of_lt_of_le (R.lt l bk cap hβ).1 S.keeps.size, (R.lt l bk cap hβ).2⟩
   ·injection e with e1 e2
    subst e1
    exact hl (R.inj l' l bk c' cap hb' hβ)
   ·have hb2 : (H.set l { b with rows := b.rows.take len ++ ys ++ b.rows.drop (len + ys.length) })[l]? = some { b with rows := b.rows.take len ++ ys ++ b.rows.drop (len + ys.length) } := getElem?_set_self (List.getElem?_eq_some_iff.1 hb).1
    have hR : Rep (w.setRow bk cur') (Mu X (β.set l (.lies bk cap)) (H.set l { b with rows := b.rows.take len ++ ys ++ b.rows.drop (len + ys.length) })) (β.set l (.lies bk cap)) (H.set l { b with rows := b.rows.take len ++ ys ++ b.rows.drop (len + ys.length) }) (.slice (some ⟨bk, 0, none⟩) (len + ys.length) cap) (.osl l n sz 0 (len + ys.length)) := by
     refine .osl l n sz 0 (len + ys.length) _ cap { b with rows := b.rows.take len ++ ys ++ b.rows.drop (len + ys.length) } hb2 (by rw [hlen]; exact k1) (by omega) (.inr ⟨_, rfl⟩) (by omega) λ _ _ => ?_
     rw [getElem?_set_self (List.getElem?_eq_some_iff.1 hβ).1]
     exact ⟨by omega, by omega, λ _ => by rw [zero_mul]⟩
    by_cases hfull : len + ys.length = n
    ·rw [if_pos hfull, hfull]
     rw [hfull] at hR hb2
     exact Af hR hb2 (by show (b.rows.take len ++ ys ++ b.rows.drop n).length = n; rw [<- hfull, hlen, o1, hfull]) (by show b.sz = sz; rw [c4, c5]) (by omega)
    ·rw [if_neg hfull]; exact hR
theorem nS (R : HRel w X β H) {t : TypeId} {len : Nat} {parts : List (Nat × AV)} {ob : Prop} {r : AV} {H' : List Blk} (h : gM C H t len parts = some (ob, r, H')) {vparts : Array (Nat × Value)} (hl : vparts.size = parts.length)
  (hv : ∀ (j k : Nat) (u : AV), parts[j]? = some (k, u) -> ∃ v, vparts[j]? = some (k, v) /\ Rep w (Mu X β H) β H v u) :
  ∃ u w' β', (Instr.buildSlice t len vparts).run C.P w = .ok u w' /\ HRel w' X β' H' /\ StepR w β H w' β' H' /\ Rep w' (Mu X β' H') β' H' u r := by
 unfold gM at h
 split at h
 case h_2 => cases h
 rename_i e l n sz i f he
 split at h
 case isFalse => cases h
 rename_i hc
 obtain ⟨c1, c2, c3⟩ := hc
 injection h with h; injection h with e1 e2; injection e2 with e2 e3; subst e1 e2 e3 c3
 obtain ⟨z, hz⟩ : ∃ z, zT C.P e = some z := by cases hz' : zT C.P e <;> simp_all
 obtain ⟨i0, zv, z1, z2, z3, z4, z5, z6, z7⟩ := cN hz
 have hzr : (zeroValue e).run C.P w = .ok zv w := by simp [zeroValue, typeInfo, z1, z2]
 have hsize := bC (P := C.P) (t := e) (by omega) w
 obtain ⟨v, hv1, hv2⟩ := hv 0 0 _ rfl
 obtain ⟨a, b, rfl, hb, hn, hx⟩ := dS hv2
 have hvp : vparts.toList = [(0, .pointer (some a))] := by
  have h1 : vparts.toList.length = 1 := by rw [Array.length_toList, hl]; rfl
  have h2 : vparts.toList[0]? = some (0, .pointer (some a)) := by rw [Array.getElem?_toList]; exact hv1
  match hvl : vparts.toList, h1, h2 with
  | [x], _, h2 => simp at h2; rw [h2]
 have g1 : Instr.fill (λ k => some (k * szT C.P e, szT C.P e)) ((Array.range (1 * szT C.P e)).map λ x => zv.cells[x % zv.cells.size]!) vparts.toList = some #[.pointer (some a)] := by
  rw [hvp, c1]
  obtain ⟨x0, hx0⟩ : ∃ x0, (Array.range (1 * 1)).map (λ x => zv.cells[x % zv.cells.size]!) = #[x0] := ⟨zv.cells[0 % zv.cells.size]!, by
   apply Array.ext
   ·simp
   ·intro i h1 h2
    have : i = 0 := by simp at h1; omega
    subst this
    simp⟩
  rw [hx0]
  unfold Instr.fill
  simp [Instr.fill, Value.cells]
 have hrun : (Instr.buildSlice t 1 vparts).run C.P w = .ok (.slice (some ⟨w.heap.size, 0, none⟩) 1 1) (w.alloc (.cells #[.pointer (some a)] e)) := by
  have hno : ¬ 1 * szT C.P e > 2 ^ 24 := by rw [c1]; decide
  have h0 : ¬ 1 * szT C.P e = 0 := by rw [c1]; decide
  simp only [Instr.buildSlice, Sem.run_bind, run_underlying (cm he), Result.andThen_ok, hsize, hno, if_false, h0, hzr, Sem.run_pure, g1, newRow, run_newObj]
  rfl
 have hk := Keeps.alloc (λ _ => False) w (.cells #[.pointer (some a)] e)
 have S := dL R hk (.lies w.heap.size 1) ⟨e, 1, [[.ptr l n sz i f]], true, false⟩ (λ bk c e => by injection e with e _; omega)
 refine ⟨_, _, β ++ [.lies w.heap.size 1], hrun, d9 R hk _ _ (λ bk c e => by injection e with e _; omega) (λ bk c e => by injection e with e _; subst e; simp) ?_, S, ?_⟩
 ·refine kI S (heap_alloc_new w _) rfl (le_refl _) (by unfold maxLen; omega) Nat.one_pos (λ r hr => by rw [List.mem_singleton.1 hr]; rfl) (λ i' j' r av hi hj => ?_)
  match i', hi with
  | 0, hi =>
   simp at hi
   subst hi
   match j', hj with
   | 0, hj =>
    simp at hj
    subst hj
    exact ⟨.pointer (some a), rfl, rfl, hv2, λ h => by cases h⟩
   | j' + 1, hj => simp at hj
  | i' + 1, hi => simp at hi
 ·refine .own H.length 1 _ 1 _ (bn H _) ⟨Nat.one_pos, le_refl _⟩ (.inr ⟨_, rfl⟩) (le_refl _) λ _ => ?_
  rw [<- R.len, bn]
  exact ⟨rfl, rfl⟩
theorem ue {P : Program} (w : World) (dT sT ty elem : TypeId) (d : Addr) (dLen dCap : Nat) (a : Addr) (sLen sCap : Nat) (cs : List Value) (hu : P.underlying dT = some (.slice elem)) (hs : 0 < szT P elem)
  (hn : cs.length = Nat.min sLen dLen * szT P elem) (hsrc : ∀ j v, cs[j]? = some v -> w.cell? (a.add j) = some v) {w' : World} (hst : (storeCells d cs).run P w = .ok () w') :
  (Builtin.copy_ #[dT, sT] ty #[.slice (some d) dLen dCap, .slice (some a) sLen sCap]).run P w = .ok (goInt (Nat.min sLen dLen)) w' := by
 have hl := run_loadCells_list (P := P) w a cs hsrc
 rw [hn] at hl
 simp [Builtin.copy_, run_underlying hu, Builtin.lenOf, Builtin.firstCells, bC hs, hl, hst]
theorem rj {P : Program} (w : World) (dT sT ty elem : TypeId) (d a : Option Addr) (dLen dCap sLen sCap : Nat) (hu : P.underlying dT = some (.slice elem)) (hs : 0 < szT P elem) (hn : Nat.min sLen dLen = 0) :
  (Builtin.copy_ #[dT, sT] ty #[.slice d dLen dCap, .slice a sLen sCap]).run P w = .ok (.int .i64 0) w := by
 have hl : ∀ a : Addr, (loadCells a 0).run P w = .ok #[] w := λ a => by have := run_loadCells_list (P := P) w a [] (λ j v h => by simp at h); simpa using this
 cases d <;> cases a <;> simp [Builtin.copy_, run_underlying hu, Builtin.lenOf, Builtin.firstCells, bC hs, hn, hl, storeCells, goInt]
theorem FQ {e : TypeId} {s : AV} {l n off len : Nat} (h : FP C e s = some (l, n, off, len)) {vs : Value} (hs : Rep w (Mu X β H) β H vs s) {b : Blk} (hb : H[l]? = some b) (hn : b.rows.length = n) (hsz : b.sz = szT C.P e) :
  ∃ a cap, vs = .slice a len cap /\ off + len <= n /\ (0 < len -> ∃ bk c, β[l]? = some (BI.lies bk c) /\ a = some ⟨bk, off * b.sz, none⟩) := by
 unfold FP at h
 split at h
 ·rename_i l' n'
  injection h with h; injection h with e1 h; injection h with e2 h; injection h with e3 e4; subst e1 e2 e3 e4
  obtain ⟨a, cap, b', rfl, hb', k1, k2, k3⟩ := fj hs
  rw [hb] at hb'; injection hb' with hb'; subst hb'
  refine ⟨a, cap, rfl, by omega, λ h0 => ?_⟩
  have hx := k3 hn
  cases hβ : β[l']? with
  | none => rw [hβ] at hx; exact hx.elim
  | some bi =>
   rw [hβ] at hx
   cases bi with
   | nil => have := hx.1; omega
   | lies bk c => exact ⟨bk, c, rfl, by rw [hx.1, zero_mul]⟩
 ·rename_i l' n' sz' off' len'
  split at h
  ·rename_i hc
   injection h with h; injection h with e1 h; injection h with e2 h; injection h with e3 e4; subst e1 e2 e3 e4
   obtain ⟨a, cap, b', rfl, hb', k1, k2, k3, k4, k5⟩ := dR hs
   rw [hb] at hb'; injection hb' with hb'; subst hb'
   refine ⟨a, cap, rfl, k2, λ h0 => ?_⟩
   have hx := k5 hn (by rw [hsz, hc])
   cases hβ : β[l']? with
   | none => rw [hβ] at hx; exact hx.elim
   | some bi =>
    rw [hβ] at hx
    cases bi with
    | nil => have := hx.2.1; omega
    | lies bk c =>
     obtain ⟨q1, q2, q3⟩ := hx
     exact ⟨bk, c, rfl, by rw [q3 (by omega), hsz, hc]⟩
  ·cases h
 ·cases h
theorem uU (R : HRel w X β H) {t : TypeId} {s x : AV} {ob : Prop} {r : AV} {H' : List Blk} (h : uT C H t s x = some (ob, r, H')) (hob : ob) {vs vx : Value} (hs : Rep w (Mu X β H) β H vs s) (hx : Rep w (Mu X β H) β H vx x) (ty : TypeId) :
  ∃ u w' β', (Builtin.copy_ #[t, t] ty #[vs, vx]).run C.P w = .ok u w' /\ HRel w' X β' H' /\ StepR w β H w' β' H' /\ Rep w' (Mu X β' H') β' H' u r := by
 unfold uT at h
 split at h
 case h_2 => cases h
 rename_i e he
 split at h
 ·cases h
 rename_i hz0
 have hz0 : 0 < szT C.P e := by omega
 split at h
 case h_2 => cases h
 rename_i ob1 ys dp l n off len hsr hds
 split at h
 case h_2 => cases h
 rename_i b hb
 split at h
 case isFalse => cases h
 rename_i hc
 obtain ⟨hmu, hsz⟩ := hc
 injection h with h; injection h with e1 e2; injection e2 with e2 e3; subst e1 e2 e3
 obtain ⟨o1, o2⟩ := hob
 obtain ⟨xa, c, xval, rfl, hxr, hxl, hxv⟩ := ku (C := C) (e := e) R hsr o1 hx
 obtain ⟨a, cap, rfl, hle, hat⟩ := FQ (C := C) hds hs hb o2 hsz
 have hzr : ∀ (w' : World) (β' : List BI) (H' : List Blk), Rep w' (Mu X β' H') β' H' (goInt (Nat.min ys.length len)) (.int .i64 (min ys.length len : Nat)) := λ _ _ _ => .deep (.int _ _)
 have hlt : l < H.length := (List.getElem?_eq_some_iff.1 hb).1
 rcases Nat.eq_zero_or_pos (min ys.length len) with h0 | h0
 ·have hrun := rj (P := C.P) w t t ty e a xa len cap ys.length c (cm he) hz0 h0
  have htk : ys.take len = [] := by
   rcases Nat.eq_zero_or_pos len with h | h
   ·rw [h]; rfl
   ·have : ys = [] := length_eq_zero_iff.1 (by omega)
    rw [this, List.take_nil]
  have hbb : ({ b with rows := b.rows.take off ++ ys.take len ++ b.rows.drop (off + min ys.length len), deep := b.deep && dp } : Blk) = { b with deep := b.deep && dp } := by
   rw [htk, h0]
   simp
  rw [hbb]
  have hβ : ∃ bi, β[l]? = some bi := by
   have : l < β.length := by rw [R.len]; exact hlt
   exact ⟨_, getElem?_eq_getElem this⟩
  obtain ⟨bi, hβ⟩ := hβ
  have hB := R.blk l bi b hβ hb
  have S := d4 (w := w) (w' := w) R hb hβ bi { b with deep := b.deep && dp } rfl rfl (le_refl _) (λ _ => rfl) (λ h => h) (λ bk c e => .inr ⟨c, e⟩) (Keeps.refl _ _)
  refine ⟨_, w, β.set l bi, hrun, d3 R hb hβ _ _ S (λ _ _ _ _ _ => rfl) ?_ (λ bk c e => by subst e; exact R.lt l bk c hβ) (λ bk c l' c' e hl hb' => by subst e; exact hl (R.inj l' l bk c' c hb' hβ)), S, by rw [h0]; exact .deep (.int _ _)⟩
  cases bi with
  | nil => exact hB
  | lies bk c =>
   obtain ⟨cur, h1, h2, h3, h4, h5, h6, h7⟩ := hB.cells (by omega)
   refine .inl ⟨cur, h1, h2, h3, h4, h5, h6, λ i j r av hr hj => ?_⟩
   obtain ⟨v, q1, q2, q3, q4⟩ := h7 i j r av hr hj
   refine ⟨v, q1, q2, q3.keep S, λ hd => ?_⟩
   simp only [Bool.and_eq_true] at hd
   exact (q4 hd.1).keep (λ b hb hn => S.keeps.block b hb (λ hm => hn (.inr hm))) S.keeps.size (λ b hb => S.mu b hb)
 ·obtain ⟨bk, c0, hβ, rfl⟩ := hat (by omega)
  obtain ⟨xb, xoff, rfl, hxc⟩ := hxr (by omega)
  have hkl : (ys.take len).length = min ys.length len := by rw [length_take]; omega
  have hxc' : ∀ i j, i < min ys.length len -> j < szT C.P e -> w.cell? ⟨xb, xoff + i * szT C.P e + j, none⟩ = some (xval i j) /\ (xval i j).oneCell' = true := λ i j hi hj => hxc i j (by omega) hj
  obtain ⟨w', β', g1, g2, g3⟩ := qP (C := C) R (by omega) hb hβ hmu off (ys.take len) (cI xval (min ys.length len) (szT C.P e)) dp (by rw [hkl]; omega) (by rw [aU, hkl, hsz]) (λ v hv => by
   obtain ⟨k, hk, rfl⟩ := getElem_of_mem hv
   exact (dm hxc' (getElem?_eq_getElem hk)).2) (λ r hr => by rw [hsz]; exact hxl r (mem_of_mem_take hr)) (λ i j r av hi hj => by
   have hil := (List.getElem?_eq_some_iff.1 hi).1
   rw [hkl] at hil
   rw [getElem?_take] at hi
   split at hi
   ·have hjl := (List.getElem?_eq_some_iff.1 hj).1
    rw [hxl r (mem_of_getElem? hi)] at hjl
    rw [hsz, fG _ _ _ _ _ hil hjl]
    obtain ⟨q1, q2⟩ := hxv i j r av hi hj
    exact ⟨_, rfl, q1, q2⟩
   ·cases hi)
  rw [hkl] at g2 g3
  refine ⟨_, w', β', ue (P := C.P) w t t ty e ⟨bk, off * b.sz, none⟩ len cap ⟨xb, xoff, none⟩ ys.length c (cI xval (min ys.length len) (szT C.P e)) (cm he) hz0 (by rw [aU]) (λ j u hj => (dm hxc' hj).1) g1, g2, g3, hzr _ _ _⟩
end
open Go.RowKit Go.ChangeMaps Go.MapKept
def wl : Bool -> TypeDesc
 | true => .int .i64
 | false => .string
theorem Gt {P : Program} {t : TypeId} {kb : Bool} (h : Dr P t = some kb) : P.underlying t = some (wl kb) := by
 unfold Dr at h
 split at h
 ·rename_i h1; injection h with h; subst h; exact h1
 ·rename_i h1; injection h with h; subst h; exact h1
 ·cases h
theorem KeyRep.isKey {kb : Bool} {v : Value} {a : AV} (h : KeyRep kb v a) : IsKey (wl kb) v := by
 rcases h with ⟨rfl, n, rfl, _⟩ | ⟨rfl, s, rfl, _⟩
 ·rfl
 ·trivial
theorem KeyRep.inj {kb : Bool} {u v : Value} {a b : AV} (h : KeyRep kb u a) (h' : KeyRep kb v b) : ak a b = true ↔ u = v := by
 rcases h with ⟨rfl, n, rfl, rfl⟩ | ⟨rfl, s, rfl, rfl⟩ <;> rcases h' with ⟨h1, m, rfl, rfl⟩ | ⟨h1, t, rfl, rfl⟩
 ·simp [ak]
 ·cases h1
 ·cases h1
 ·simp [ak]
theorem kL {w : World} {X : Nat -> Prop} {β : List BI} {H : List Blk} {kb : Bool} {v : Value} {a : AV} (h : ao kb a = true) (hr : Rep w X β H v a) : KeyRep kb v a := by
 unfold ao at h
 split at h
 ·rename_i n
  exact .inl ⟨rfl, n, bW hr, rfl⟩
 ·rename_i s
  exact .inr ⟨rfl, s, fS hr, rfl⟩
 ·cases h
def iO (x : AV) : List AV -> Option Nat
 | [] => none
 | .tup [k, _] :: r => if ak k x then some 0 else (iO x r).map (· + 1)
 | _ :: r => (iO x r).map (· + 1)
def Pairs (ents : List AV) : Prop := ∀ e ∈ ents, ∃ k v, e = .tup [k, v]
theorem Pairs.tail {e : AV} {r : List AV} (h : Pairs (e :: r)) : Pairs r := λ x hx => h x (mem_cons_of_mem _ hx)
theorem kg {x : AV} : ∀ {ents : List AV}, Pairs ents -> ah x ents = (iO x ents).bind λ j => match ents[j]? with | some (.tup [_, v]) => some v | _ => none
 | [], _ => rfl
 | e :: r, h => by
  obtain ⟨k, v, rfl⟩ := h e (mem_cons_self ..)
  unfold ah iO
  split
  ·rfl
  ·rw [kg h.tail]
   cases iO x r <;> simp
theorem sd {x v : AV} : ∀ {ents : List AV}, Pairs ents -> iO x ents = none -> ai x v ents = ents ++ [.tup [x, v]]
 | [], _, _ => rfl
 | e :: r, h, hn => by
  obtain ⟨k, u, rfl⟩ := h e (mem_cons_self ..)
  unfold iO at hn
  unfold ai
  split at hn
  ·cases hn
  ·rename_i hc
   rw [if_neg hc, sd h.tail (by simpa using hn)]
   rfl
theorem se {x v : AV} : ∀ {ents : List AV} {j : Nat}, Pairs ents -> iO x ents = some j -> ∃ k u, ents[j]? = some (.tup [k, u]) /\ ak k x = true /\ ai x v ents = ents.set j (.tup [k, v])
 | [], j, _, hn => by cases hn
 | e :: r, j, h, hn => by
  obtain ⟨k, u, rfl⟩ := h e (mem_cons_self ..)
  unfold iO at hn
  unfold ai
  split at hn
  ·rename_i hc
   injection hn with hn; subst hn
   rw [if_pos hc]
   exact ⟨k, u, rfl, hc, rfl⟩
  ·rename_i hc
   rw [if_neg hc]
   simp only [map_eq_some_iff] at hn
   obtain ⟨i, hi, rfl⟩ := hn
   obtain ⟨k', u', h1, h2, h3⟩ := se (v := v) h.tail hi
   exact ⟨k', u', by simpa using h1, h2, by rw [h3]; rfl⟩
theorem r6 {x : AV} : ∀ {ents : List AV}, Pairs ents -> iO x ents = none -> aj x ents = ents
 | [], _, _ => rfl
 | e :: r, h, hn => by
  obtain ⟨k, u, rfl⟩ := h e (mem_cons_self ..)
  unfold iO at hn
  unfold aj
  split at hn
  ·cases hn
  ·rename_i hc
   rw [if_neg hc, r6 h.tail (by simpa using hn)]
theorem r7 {x : AV} : ∀ {ents : List AV} {j : Nat}, Pairs ents -> iO x ents = some j -> aj x ents = ents.eraseIdx j
 | [], j, _, hn => by cases hn
 | e :: r, j, h, hn => by
  obtain ⟨k, u, rfl⟩ := h e (mem_cons_self ..)
  unfold iO at hn
  unfold aj
  split at hn
  ·rename_i hc
   injection hn with hn; subst hn
   rw [if_pos hc]
   rfl
  ·rename_i hc
   rw [if_neg hc]
   simp only [map_eq_some_iff] at hn
   obtain ⟨i, hi, rfl⟩ := hn
   rw [r7 h.tail hi]
   rfl
section
variable {C : Ctx} {w w' : World} {X : Nat -> Prop} {β : List BI} {H : List Blk}
theorem EntsRep.pairs {kb : Bool} {es : Array MapEntry} {clock : Nat} {ents : List AV} (E : EntsRep w X β H kb es clock ents) : Pairs ents := λ e he => by
 obtain ⟨i, hi, rfl⟩ := List.mem_iff_getElem.1 he
 have hi' : i < es.size := by rw [E.len]; exact hi
 obtain ⟨k, v, h1, _⟩ := E.ent i es[i] (Array.getElem?_eq_getElem hi')
 rw [getElem?_eq_getElem hi] at h1
 injection h1 with h1
 exact ⟨k, v, h1⟩
theorem rN {kb : Bool} {xv : Value} {x : AV} (hx : KeyRep kb xv x) : ∀ {es : List MapEntry} {ents : List AV} (i0 : Nat), es.length = ents.length -> (∀ (i : Nat) (e : MapEntry), es[i]? = some e -> ∃ k v : AV, ents[i]? = some (.tup [k, v]) /\ KeyRep kb e.key k) ->
  (Instr.findNow (wl kb) xv es i0 = some none /\ iO x ents = none /\ ∀ e ∈ es, e.key ≠ xv) ∨ ∃ j e, Instr.findNow (wl kb) xv es i0 = some (some (i0 + j, e.val)) /\ es[j]? = some e /\ e.key = xv /\ iO x ents = some j
 | [], [], i0, _, _ => .inl ⟨rfl, rfl, by simp⟩
 | [], _ :: _, _, h, _ => by simp at h
 | _ :: _, [], _, h, _ => by simp at h
 | e :: es, a :: ents, i0, hl, h => by
  obtain ⟨k, v, h1, h2⟩ := h 0 e rfl
  simp at h1
  subst h1
  obtain ⟨r, hr, hiff⟩ := sameNow_of_keys hx.isKey h2.isKey
  have hs := h2.inj hx
  cases r with
  | true =>
   have e1 : e.key = xv := (hiff.1 rfl).symm
   exact .inr ⟨0, e, by simp [Instr.findNow, hr], rfl, e1, by rw [iO, if_pos (hs.2 e1)]⟩
  | false =>
   have hne : e.key ≠ xv := λ q => by have := hiff.2 q.symm; cases this
   have hm : ¬ ak k x = true := λ q => hne (hs.1 q)
   rcases rN hx (i0 + 1) (by simpa using hl) (λ i e he => h (i + 1) e (by simpa using he)) with ⟨q1, q2, q3⟩ | ⟨j, e', q1, q2, q3, q4⟩
   ·refine .inl ⟨by simp [Instr.findNow, hr, q1], by rw [iO, if_neg hm, q2]; rfl, λ y hy => ?_⟩
    rcases List.mem_cons.1 hy with rfl | hy
    ·exact hne
    ·exact q3 y hy
   ·exact .inr ⟨j + 1, e', by simp [Instr.findNow, hr, q1]; omega, by simpa using q2, q3, by rw [iO, if_neg hm, q4]; rfl⟩
theorem EntsRep.find {kb : Bool} {es : Array MapEntry} {clock : Nat} {ents : List AV} (E : EntsRep w X β H kb es clock ents) {xv : Value} {x : AV} (hx : KeyRep kb xv x) :
  (Instr.findNow (wl kb) xv es.toList 0 = some none /\ iO x ents = none /\ ∀ e ∈ es.toList, e.key ≠ xv) ∨ ∃ j e, Instr.findNow (wl kb) xv es.toList 0 = some (some (j, e.val)) /\ es[j]? = some e /\ e.key = xv /\ iO x ents = some j := by
 rcases rN hx 0 (by rw [Array.length_toList]; exact E.len) (λ i e he => by
  obtain ⟨k, v, h1, h2, _⟩ := E.ent i e (by simpa using he)
  exact ⟨k, v, h1, h2⟩) with h | ⟨j, e, h1, h2, h3, h4⟩
 ·exact .inl h
 ·exact .inr ⟨j, e, by simpa using h1, by simpa using h2, h3, h4⟩
theorem ou {t : TypeId} {kb : Bool} {e : TypeId} (h : au C t = some (kb, e)) : ∃ k, C.P.underlying t = some (.map k e) /\ C.P.underlying k = some (wl kb) := by
 unfold au at h
 split at h
 ·rename_i k e' hm
  split at h
  ·rename_i b hb
   injection h with h; injection h with h1 h2; subst h1 h2
   refine ⟨k, ?_, Gt hb⟩
   unfold tO at hm
   split at hm
   ·rename_i k' e' hu
    injection hm with hm; injection hm with h1 h2; subst h1 h2
    exact hu
   ·cases hm
  ·cases h
 ·cases h
theorem rL {l : Nat} {kb : Bool} {b : Blk} {ents : List AV} (h : ab H l kb = some (b, ents)) : H[l]? = some b /\ b.rows = [ents] /\ b.sz = 0 /\ decide (b.e = 1) = kb /\ b.mu = true := by
 unfold ab at h
 split at h
 ·rename_i b' hb
  split at h
  ·rename_i es hr
   split at h
   ·rename_i hc
    injection h with h; injection h with h1 h2; subst h1 h2
    exact ⟨hb, hr, hc.1, hc.2.1, hc.2.2⟩
   ·cases h
  ·cases h
 ·cases h
theorem tv (R : HRel w X β H) {l : Nat} {kb : Bool} {b : Blk} {ents : List AV} (h : ab H l kb = some (b, ents)) {v : Value} (hv : Rep w (Mu X β H) β H v (.mapo l)) :
  ∃ bk cap es clock, v = .map (some bk) /\ β[l]? = some (BI.lies bk cap) /\ w.heap[bk]? = some (.map es clock) /\ EntsRep w (Mu X β H) β H kb es clock ents := by
 obtain ⟨hb, hr, hz, rfl, _⟩ := rL h
 obtain ⟨bk, cap, b', rfl, hb', _, hx⟩ := mh hv
 rw [hb] at hb'; injection hb' with hb'; subst hb'
 have hβ := hx (by rw [hr]; rfl)
 obtain ⟨_, _, es, clock, ents', h1, h2, h3⟩ := (R.blk l _ b hβ hb).map hz
 rw [hr] at h2
 injection h2 with h2
 subst h2
 exact ⟨bk, cap, es, clock, rfl, hβ, h1, h3⟩
theorem pP {bk : Nat} {es : Array MapEntry} {clock : Nat} (hb : w.heap[bk]? = some (.map es clock)) {M : Nat -> Prop} (hM : M bk) (o : Obj) : Keeps M w (setBlock w bk o) :=
 ⟨rfl, rfl, rfl, by simp [setBlock], λ c hc hn => heap_setBlock_other hb _ λ e => hn (e ▸ hM), Drawn.refl w⟩
theorem lV (R : HRel w X β H) {l bk cap : Nat} {kb : Bool} {b : Blk} {ents ents' : List AV} (h : ab H l kb = some (b, ents)) (hβ : β[l]? = some (BI.lies bk cap)) {es es' : Array MapEntry} {clock clock' : Nat} (hw : w.heap[bk]? = some (.map es clock))
  (hE : StepR w β H (setBlock w bk (.map es' clock')) (β.set l (.lies bk cap)) (H.set l { b with rows := [ents'] }) -> EntsRep (setBlock w bk (.map es' clock')) (Mu X (β.set l (.lies bk cap)) (H.set l { b with rows := [ents'] })) (β.set l (.lies bk cap)) (H.set l { b with rows := [ents'] }) kb es' clock' ents') :
  HRel (setBlock w bk (.map es' clock')) X (β.set l (.lies bk cap)) (H.set l { b with rows := [ents'] }) /\ StepR w β H (setBlock w bk (.map es' clock')) (β.set l (.lies bk cap)) (H.set l { b with rows := [ents'] }) := by
 obtain ⟨hb, hr, hz, hkb, hmu⟩ := rL h
 have hM : MutB β H bk := ⟨l, cap, b, hβ, hb, hmu⟩
 have S := d4 (w := w) R hb hβ (.lies bk cap) { b with rows := [ents'] } rfl rfl (by rw [hr]; exact le_refl _) (λ _ => rfl) (λ h => h) (λ bk' c e => .inr ⟨c, e⟩) (pP hw hM (.map es' clock'))
 have hd := ((R.blk l _ b hβ hb).map hz).2.1
 refine ⟨d3 R hb hβ _ _ S (λ l' bk' c hl hb' => heap_setBlock_other hw _ (λ e => hl (R.inj l' l bk' c cap hb' (e ▸ hβ)))) ?_ (λ bk' c e => ?_) (λ bk' c l' c' e hl hb' => ?_), S⟩
 ·refine .inr ⟨hz, hd, es', clock', ents', heap_setBlock_same hw _, rfl, ?_⟩
  have := hE S
  subst hkb
  exact this
 ·injection e with e1 e2; subst e1
  exact ⟨by simp only [setBlock, Array.size_setIfInBounds]; exact (R.lt l _ cap hβ).1, (R.lt l _ cap hβ).2⟩
 ·injection e with e1 e2; subst e1
  exact hl (R.inj l' l bk c' cap hb' hβ)
theorem pg (R : HRel w X β H) {t : TypeId} {ob : Prop} {r : AV} {H' : List Blk} (h : aa C H t = some (ob, r, H')) :
  ∃ u w' β', (Instr.makeMap t none).run C.P w = .ok u w' /\ HRel w' X β' H' /\ StepR w β H w' β' H' /\ Rep w' (Mu X β' H') β' H' u r := by
 unfold aa at h
 split at h
 ·rename_i kb e hk
  injection h with h; injection h with e1 e2; injection e2 with e2 e3; subst e1 e2 e3
  have hk := Keeps.alloc (λ _ => False) w (.map #[] 0)
  have S := dL R hk (.lies w.heap.size 0) ⟨if kb then 1 else 0, 0, [[]], true, false⟩ (λ bk c e => by injection e with e _; omega)
  refine ⟨_, _, β ++ [.lies w.heap.size 0], run_makeMap t w, d9 R hk _ _ (λ bk c e => by injection e with e _; omega) (λ bk c e => by injection e with e _; subst e; simp) ?_, S, ?_⟩
  ·exact .inr ⟨rfl, rfl, #[], 0, [], heap_alloc_new w _, rfl, ⟨rfl, zero_le _, stamped_empty 0, λ i e he => by simp at he⟩⟩
  ·refine .mapo H.length _ 0 ⟨if kb then 1 else 0, 0, [[]], true, false⟩ (by simp) ⟨rfl, le_refl _⟩ λ _ => ?_
   rw [<- R.len]
   simp
 ·cases h
theorem vd (R : HRel w X β H) {t : TypeId} {m x v : AV} {ob : Prop} {r : AV} {H' : List Blk} (h : am C H t m x v = some (ob, r, H')) (hob : ob) {vm vx vv : Value} (hm : Rep w (Mu X β H) β H vm m) (hx : Rep w (Mu X β H) β H vx x) (hv : Rep w (Mu X β H) β H vv v) :
  ∃ w' β', (Instr.mapUpdate t vm vx vv).run C.P w = .ok () w' /\ HRel w' X β' H' /\ StepR w β H w' β' H' /\ r = .tup [] := by
 unfold am at h
 split at h
 ·rename_i l kb e hk
  split at h
  ·rename_i b ents he
   split at h
   ·rename_i hkey
    injection h with h; injection h with e1 e2; injection e2 with e2 e3; subst e1 e2 e3
    obtain ⟨k, hu, hd⟩ := ou hk
    obtain ⟨bk, cap, es, clock, rfl, hβ, hw, E⟩ := tv R he hm
    have K := kL hkey hx
    rcases E.find K with ⟨f1, f2, f3⟩ | ⟨j, e0, f1, f2, f3, f4⟩
    ·have hrun : (Instr.mapUpdate t (.map (some bk)) vx vv).run C.P w = .ok () (setBlock w bk (.map (es.push ⟨vx, vv, clock⟩) (clock + 1))) := by
      simp [Instr.mapUpdate, run_underlying hu, MapKept.run_getObj_map hw, run_checkKey hd K.isKey, run_findKey hd f1, MapKept.run_setObj_map _ hw, Result.andThen, setBlock]
     rw [sd E.pairs f2]
     obtain ⟨h1, h2⟩ := lV R he hβ (es' := es.push ⟨vx, vv, clock⟩) (clock' := clock + 1) (ents' := ents ++ [.tup [x, v]]) hw (λ S => ⟨by simp [E.len], by simp; have := E.len; unfold maxLen; omega, stamped_push E.st f3, λ i e hi => by
      rw [Array.getElem?_push] at hi
      split at hi
      ·rename_i hc
       injection hi with hi; subst hi
       exact ⟨x, v, by rw [hc, E.len]; simp, K, hv.keep S⟩
      ·obtain ⟨k', v', q1, q2, q3⟩ := E.ent i e hi
       exact ⟨k', v', by rw [getElem?_append_left (List.getElem?_eq_some_iff.1 q1).1]; exact q1, q2, q3.keep S⟩⟩)
     exact ⟨_, _, hrun, h1, h2, rfl⟩
    ·have hrun : (Instr.mapUpdate t (.map (some bk)) vx vv).run C.P w = .ok () (setBlock w bk (.map (es.modify j λ e' => { e' with key := vx, val := vv }) clock)) := by
      simp [Instr.mapUpdate, run_underlying hu, MapKept.run_getObj_map hw, run_checkKey hd K.isKey, run_findKey hd f1, f2, f3, run_keyThatStays K.isKey, MapKept.run_setObj_map _ hw, Result.andThen, setBlock]
     obtain ⟨k0, u0, g1, g2, g3⟩ := se (v := v) E.pairs f4
     rw [g3]
     have hjl : j < ents.length := (List.getElem?_eq_some_iff.1 g1).1
     obtain ⟨h1, h2⟩ := lV R he hβ (es' := es.modify j λ e' => { e' with key := vx, val := vv }) (clock' := clock) (ents' := ents.set j (.tup [k0, v])) hw (λ S => ⟨by simp [E.len], by simp [E.max], stamped_modify E.st _ _ (λ _ _ => rfl) (λ e' _ he' => by rw [f2] at he'; injection he' with he'; subst he'; exact f3.symm), λ i e hi => by
      rw [Array.getElem?_modify] at hi
      split at hi
      ·rename_i hc
       subst hc
       rw [f2] at hi
       injection hi with hi; subst hi
       obtain ⟨k', v', q1, q2, q3⟩ := E.ent j e0 f2
       rw [g1] at q1
       injection q1 with q1; injection q1 with q1; injection q1 with q1 _; subst q1
       exact ⟨k0, v, by rw [getElem?_set_self hjl], by rw [<- f3]; exact q2, hv.keep S⟩
      ·rename_i hc
       obtain ⟨k', v', q1, q2, q3⟩ := E.ent i e hi
       exact ⟨k', v', by rw [List.getElem?_set_ne hc]; exact q1, q2, q3.keep S⟩⟩)
     exact ⟨_, _, hrun, h1, h2, rfl⟩
   ·cases h
  ·cases h
 ·cases h
theorem uX (R : HRel w X β H) {t : TypeId} {m x : AV} {ob : Prop} {r : AV} {H' : List Blk} (h : ap C H t m x = some (ob, r, H')) {vm vx : Value} (hm : Rep w (Mu X β H) β H vm m) (hx : Rep w (Mu X β H) β H vx x) (tys : Array TypeId) (ht : tys[0]? = some t) (args : Array Value) (ha : args[0]? = some vm) (ha1 : args[1]? = some vx) (ty : TypeId) :
  ∃ w' β', (Builtin.delete_ tys ty args).run C.P w = .ok (.tuple #[]) w' /\ HRel w' X β' H' /\ StepR w β H w' β' H' /\ r = .tup [] := by
 unfold ap at h
 split at h
 ·rename_i l kb e hk
  split at h
  ·rename_i b ents he
   split at h
   ·rename_i hkey
    injection h with h; injection h with e1 e2; injection e2 with e2 e3; subst e1 e2 e3
    obtain ⟨k, hu, hd⟩ := ou hk
    obtain ⟨bk, cap, es, clock, rfl, hβ, hw, E⟩ := tv R he hm
    have K := kL hkey hx
    rcases E.find K with ⟨f1, f2, f3⟩ | ⟨j, e0, f1, f2, f3, f4⟩
    ·have hrun : (Builtin.delete_ tys ty args).run C.P w = .ok (.tuple #[]) (setBlock w bk (.map es clock)) := by
      simp [Builtin.delete_, ht, ha, ha1, run_underlying hu, MapKept.run_getObj_map hw, run_checkKey hd K.isKey, run_findKey hd f1, MapKept.run_setObj_map _ hw, Result.andThen, setBlock]
     rw [r6 E.pairs f2]
     obtain ⟨h1, h2⟩ := lV R he hβ (es' := es) (clock' := clock) (ents' := ents) hw (λ S => ⟨E.len, E.max, E.st, λ i e hi => by
      obtain ⟨k', v', q1, q2, q3⟩ := E.ent i e hi
      exact ⟨k', v', q1, q2, q3.keep S⟩⟩)
     exact ⟨_, _, hrun, h1, h2, rfl⟩
    ·have hjs : j < es.size := (Array.getElem?_eq_some_iff.1 f2).1
     have hsub : (es.eraseIdxIfInBounds j).toList = es.toList.eraseIdx j := by
      unfold Array.eraseIdxIfInBounds
      rw [dif_pos hjs]
      simp
     have hsz : (es.eraseIdxIfInBounds j).size = es.size - 1 := by
      rw [<- Array.length_toList, hsub, List.length_eraseIdx, if_pos (by simpa using hjs)]
      simp
     have hrun : (Builtin.delete_ tys ty args).run C.P w = .ok (.tuple #[]) (setBlock w bk (.map (es.eraseIdxIfInBounds j) clock)) := by
      simp [Builtin.delete_, ht, ha, ha1, run_underlying hu, MapKept.run_getObj_map hw, run_checkKey hd K.isKey, run_findKey hd f1, MapKept.run_setObj_map _ hw, Result.andThen, setBlock]
     rw [r7 E.pairs f4]
     have hl := E.len
     obtain ⟨h1, h2⟩ := lV R he hβ (es' := es.eraseIdxIfInBounds j) (clock' := clock) (ents' := ents.eraseIdx j) hw (λ S => ⟨by rw [hsz, List.length_eraseIdx, if_pos (by omega), hl], by rw [hsz]; have := E.max; omega, stamped_erase E.st j, λ i e hi => by
      rw [<- Array.getElem?_toList, hsub, List.getElem?_eraseIdx] at hi
      rw [List.getElem?_eraseIdx]
      split at hi
      ·rename_i hc
       rw [if_pos hc]
       obtain ⟨k', v', q1, q2, q3⟩ := E.ent i e (by simpa using hi)
       exact ⟨k', v', q1, q2, q3.keep S⟩
      ·rename_i hc
       rw [if_neg hc]
       obtain ⟨k', v', q1, q2, q3⟩ := E.ent (i + 1) e (by simpa using hi)
       exact ⟨k', v', q1, q2, q3.keep S⟩⟩)
     exact ⟨_, _, hrun, h1, h2, rfl⟩
   ·cases h
  ·cases h
 ·cases h
theorem Fv {P : Program} {t : TypeId} {z : AV} (h : zV P t = some z) : ∃ zv, (zeroValue t).run P w = .ok zv w /\ RepD w X zv z := by
 unfold zV at h
 split at h
 ·rename_i cs asq hz hi
  injection h with h; subst h
  obtain ⟨i, zv, z1, z2, z3, z4, z5, z6, z7⟩ := cN hz
  rw [z1] at hi
  have e : zv = .agg asq := by
   simp only [bind_some, z2] at hi
   injection hi
  subst e
  refine ⟨.agg asq, by simp [zeroValue, typeInfo, z1, z2], .agg asq cs (λ j => asq.getD j undef) z6 (λ j hj => ?_) λ j v hj => ?_⟩
  ·obtain ⟨v, q1, q2, _⟩ := z7 w X j cs[j] (getElem?_eq_getElem hj)
   have q1 : asq[j]? = some v := q1
   have : asq.getD j undef = v := by simp [Array.getD_eq_getD_getElem?, q1]
   rw [this]
   exact ⟨q1, q2⟩
  ·obtain ⟨u, q1, _, q3⟩ := z7 w X j v hj
   have q1 : asq[j]? = some u := q1
   have : asq.getD j undef = u := by simp [Array.getD_eq_getD_getElem?, q1]
   rw [this]
   exact q3
 ·rename_i a zv0 hne hz hi
  injection h with h; subst h
  obtain ⟨i, zv, z1, z2, z3, z4, z5, z6, z7⟩ := cN hz
  rw [z1] at hi
  have e : zv = zv0 := by
   simp only [bind_some, z2] at hi
   injection hi
  subst e
  refine ⟨zv, by simp [zeroValue, typeInfo, z1, z2], ?_⟩
  obtain ⟨v, q1, _, q3⟩ := z7 w X 0 a rfl
  cases zv with
  | agg cs => exact absurd rfl (hne cs)
  | _ =>
   simp only [Value.cells] at q1
   injection q1 with q1
   have q1 : _ = v := q1
   subst q1
   exact q3
 ·cases h
theorem rY {t k e : TypeId} {kb : Bool} {bk : Nat} {es : Array MapEntry} {clock : Nat} {ents : List AV} {x z : AV} {ok : Bool} (hu : C.P.underlying t = some (.map k e)) (hd : C.P.underlying k = some (wl kb)) (hw : w.heap[bk]? = some (.map es clock)) (E : EntsRep w (Mu X β H) β H kb es clock ents)
  (hz : zV C.P e = some z) {vx : Value} (K : KeyRep kb vx x) :
  ∃ u, (Instr.lookup t (.map (some bk)) vx ok).run C.P w = .ok u w /\ Rep w (Mu X β H) β H u (if ok then .tup [(ah x ents).getD z, .bool (ah x ents).isSome] else (ah x ents).getD z) := by
 obtain ⟨zv, hz1, hz2⟩ := Fv (w := w) (X := Mu X β H) hz
 have key : ∃ (v : Value) (av : AV) (g : Bool), (Instr.lookup t (.map (some bk)) vx ok).run C.P w = .ok (if ok then .tuple #[v, .bool g] else v) w /\ Rep w (Mu X β H) β H v av /\ av = (ah x ents).getD z /\ g = (ah x ents).isSome := by
  rcases E.find K with ⟨f1, f2, f3⟩ | ⟨j, e0, f1, f2, f3, f4⟩
  ·refine ⟨zv, z, false, ?_, .deep hz2, ?_, ?_⟩
   ·simp [Instr.lookup, run_underlying hu, MapKept.run_getObj_map hw, run_checkKey hd K.isKey, run_findKey hd f1, hz1, Result.andThen]
   ·rw [kg E.pairs, f2]; rfl
   ·rw [kg E.pairs, f2]; rfl
  ·obtain ⟨k', v', q1, q2, q3⟩ := E.ent j e0 f2
   refine ⟨e0.val, v', true, ?_, q3, ?_, ?_⟩
   ·simp [Instr.lookup, run_underlying hu, MapKept.run_getObj_map hw, run_checkKey hd K.isKey, run_findKey hd f1, Result.andThen]
   ·rw [kg E.pairs, f4]; simp [q1]
   ·rw [kg E.pairs, f4]; simp [q1]
 obtain ⟨v, av, g, k1, k2, k3, k4⟩ := key
 refine ⟨_, k1, ?_⟩
 cases ok with
 | false => simp only [Bool.false_eq_true, if_false]; rw [<- k3]; exact k2
 | true =>
  simp only [if_true]
  rw [<- k3, <- k4]
  refine .tup _ _ (λ j => if j = 0 then v else .bool g) rfl (λ j hj => ?_) (λ j u hu => ?_)
  ·rcases j with _ | _ | j
   ·rfl
   ·rfl
   ·simp at hj; omega
  ·rcases j with _ | _ | j
   ·simp at hu; subst hu; exact k2
   ·simp at hu; subst hu; exact .deep (.bool _)
   ·simp at hu
theorem s8 (R : HRel w X β H) {t : TypeId} {l : Nat} {x : AV} {ok : Bool} {ob : Prop} {r : AV} (h : ag C H t l x ok = some (ob, r)) {vm vx : Value} (hm : Rep w (Mu X β H) β H vm (.mapo l)) (hx : Rep w (Mu X β H) β H vx x) :
  ∃ u, (Instr.lookup t vm vx ok).run C.P w = .ok u w /\ Rep w (Mu X β H) β H u r := by
 unfold ag at h
 split at h
 ·rename_i kb e hk
  split at h
  ·rename_i b ents z he hz
   split at h
   ·rename_i hkey
    injection h with h; injection h with e1 e2; subst e1 e2
    obtain ⟨k, hu, hd⟩ := ou hk
    obtain ⟨bk, cap, es, clock, rfl, hβ, hw, E⟩ := tv R he hm
    exact rY hu hd hw E hz (kL hkey hx)
   ·cases h
  ·cases h
 ·cases h
theorem DW {v : Value} {kb : Bool} {ents : List AV} (h : Rep w (Mu X β H) β H v (.mapd kb ents)) : ∃ bk es clock, v = .map (some bk) /\ bk < w.heap.size /\ ¬ Mu X β H bk /\ w.heap[bk]? = some (.map es clock) /\ EntsRep w (Mu X β H) β H kb es clock ents := by
 have h := cL rfl h
 cases h with
 | mapd bk es clock _ _ hlt hX hm hst hl hmax he hk hv =>
  exact ⟨bk, es, clock, rfl, hlt, hX, hm, hl, hmax, hst, λ i e hi => ⟨_, _, he i (by have := (Array.getElem?_eq_some_iff.1 hi).1; omega), hk i e hi, .deep (hv i e hi)⟩⟩
theorem s7 {t : TypeId} {kb : Bool} {ents : List AV} {x : AV} {ok : Bool} {ob : Prop} {r : AV} (h : ae C t kb ents x ok = some (ob, r)) {vm vx : Value} (hm : Rep w (Mu X β H) β H vm (.mapd kb ents)) (hx : Rep w (Mu X β H) β H vx x) :
  ∃ u, (Instr.lookup t vm vx ok).run C.P w = .ok u w /\ Rep w (Mu X β H) β H u r := by
 unfold ae at h
 split at h
 ·rename_i kb' e hk
  split at h
  ·rename_i z hz
   split at h
   ·rename_i hc
    obtain ⟨rfl, hkey⟩ := hc
    injection h with h; injection h with e1 e2; subst e1 e2
    obtain ⟨k, hu, hd⟩ := ou hk
    obtain ⟨bk, es, clock, rfl, _, _, hw, E⟩ := DW hm
    exact rY hu hd hw E hz (kL hkey hx)
   ·cases h
  ·cases h
 ·cases h
end
section
variable {C : Ctx} {w w' : World} {X Y : Nat -> Prop} {β : List BI} {H : List Blk}
theorem fZ {v : Value} {av : AV} (hd : av.deepArg = true) (h : Rep w X β H v av) : RepD w X v av := by
 cases av with
 | agg cells =>
  obtain ⟨cs, val, rfl, hl, hm, hv⟩ := eB h
  refine .agg cs cells val hl hm λ j u hu => cL (all_eq_true.1 hd u (mem_of_getElem? hu)) (hv j u hu)
 | fn f cells =>
  obtain ⟨cs, val, rfl, hl, hm, hv⟩ := lE h
  refine .fn f cs cells val hl hm λ j u hu => cL (all_eq_true.1 hd u (mem_of_getElem? hu)) (hv j u hu)
 | own => cases hd
 | osl => cases hd
 | ptr => cases hd
 | tup => cases hd
 | mapo => cases hd
 | _ => exact cL rfl h
theorem xw {v : AV} (h : v.isDeep = true) (d : Nat) : aX H d v = v := by
 cases d with
 | zero => simp [aX, h]
 | succ d => cases v <;> first | rfl | cases h
theorem iD (d : Nat) : ∀ (l : List AV), l.all AV.isDeep = true -> l.map (aX H d) = l
 | [], _ => rfl
 | v :: r, h => by
  simp only [all_cons, Bool.and_eq_true] at h
  simp [xw h.1, iD d r h.2]
theorem jA {v : AV} (h : v.deepArg = true) (d : Nat) : aX H (d + 1) v = v := by
 cases v with
 | agg cs => simp only [aX, iD d cs h]
 | fn f cs => simp only [aX, iD d cs h]
 | own => cases h
 | osl => cases h
 | ptr => cases h
 | tup => cases h
 | mapo => cases h
 | _ => rfl
theorem gO {v : Value} {r : AV} (hf : r.flat1 = true) (h : RepD w X v r) : RepD w Y v r := by
 cases r with
 | bool b => cases h; exact .bool _
 | int k n => cases h; exact .int _ _
 | str s => cases h; exact .str _
 | nilptr => cases h; exact .nilptr
 | _ => cases hf
theorem nF {v : Value} {cs : List AV} (hf : cs.all AV.flat1 = true) (h : RepD w X v (.agg cs)) : RepD w Y v (.agg cs) := by
 cases h with
 | agg asq _ val hl hm hv => exact .agg asq cs val hl hm λ j u hu => gO (all_eq_true.1 hf u (mem_of_getElem? hu)) (hv j u hu)
theorem pG {v : Value} {r : AV} (hf : r.isFlat = true) (h : RepD w X v r) : RepD w Y v r := by
 cases r with
 | agg cs => exact nF hf h
 | tup cs =>
  cases h with
  | tup asq _ val hl hm hv =>
   refine .tup asq cs val hl hm λ j u hu => ?_
   have h1 := all_eq_true.1 hf u (mem_of_getElem? hu)
   have h2 := hv j u hu
   cases u with
   | agg ds => exact nF h1 h2
   | _ => exact gO h1 h2
 | bool b => exact gO rfl h
 | int k n => exact gO rfl h
 | str s => exact gO rfl h
 | nilptr => exact gO rfl h
 | _ => cases hf
theorem ms {a : Act} {ρ : List (Nat × AV)} (T : i8 w X β H a ρ) (G : lL C w X) {c : Call} {f : FuncId} {avs : List AV} (h : target C ρ c = some (f, avs)) :
  ∃ args : Array Value, (∀ (ty : TypeId), (do let d <- resolve a.eval c ty; invoke d.target d.args : Sem Next).run C.P w = (callFunc f args).run C.P w) /\ args.size = avs.length /\ ∀ (j : Nat) (u : AV), avs[j]? = some u -> ∃ v, args[j]? = some v /\ Rep w X β H v u := by
 unfold target at h
 split at h
 ·rename_i op hop
  have hx := cY T G 0 op
  split at h
  ·rename_i g cap hg
   rw [hg] at hx
   obtain ⟨cs, val, h1, hl, hm, hv⟩ := lE hx
   obtain ⟨callee, cargs, ctypes⟩ := c
   simp only at hop
   subst hop
   by_cases hb : g < 1000000 ∨ cap.length = 0
   ·rw [if_pos hb] at h
    injection h with h; injection h with e1 e2; subst e1 e2
    have hbd : rc g cs = true := by unfold rc; rw [hl]; exact decide_eq_true hb
    simp only [fnI, fnR, fnC, hbd, if_true] at h1
    refine ⟨cargs.map a.eval ++ cs, λ ty => ?_, by simp [cx, hl], λ j u hu => ?_⟩
    ·simp [resolve, h1, Deferred.ofValue, invoke]
    ·rcases lt_or_ge j cargs.size with hj | hj
     ·rw [getElem?_append_left (by rw [cx]; simpa using hj)] at hu
      obtain ⟨x, k1, k2⟩ := d6 T G _ _ j u hu
      refine ⟨a.eval x, ?_, k2⟩
      rw [Array.getElem?_append_left (by simpa using hj)]
      simp only [Array.getElem?_toList] at k1
      simp [k1]
     ·rw [getElem?_append_right (by rw [cx]; simpa using hj), cx] at hu
      simp only [Array.length_toList] at hu
      refine ⟨val (j - cargs.size), ?_, hv _ u hu⟩
      rw [Array.getElem?_append_right (by simpa using hj)]
      simp only [Array.size_map]
      exact hm _ (List.getElem?_eq_some_iff.1 hu).1
   ·rw [if_neg hb] at h
    injection h with h; injection h with e1 e2; subst e1 e2
    have hbd : rc g cs = false := by unfold rc; rw [hl]; exact decide_eq_false hb
    simp only [fnI, fnR, fnC, hbd, Bool.false_eq_true, if_false] at h1
    refine ⟨cs ++ cargs.map a.eval, λ ty => ?_, by simp [cx, hl], λ j u hu => ?_⟩
    ·simp [resolve, h1, Deferred.ofValue, invoke]
    ·rcases lt_or_ge j cap.length with hj | hj
     ·rw [getElem?_append_left hj] at hu
      refine ⟨val j, ?_, hv _ u hu⟩
      rw [Array.getElem?_append_left (by omega)]
      exact hm _ hj
     ·rw [getElem?_append_right hj] at hu
      obtain ⟨x, k1, k2⟩ := d6 T G _ _ _ u hu
      refine ⟨a.eval x, ?_, k2⟩
      rw [Array.getElem?_append_right (by omega), hl]
      simp only [Array.getElem?_toList] at k1
      simp [k1]
  ·cases h
 ·cases h
theorem gH {P : Program} {f : FuncId} {fn : Func} (hf : P.funcs[f]? = some fn) (hn : fn.name ≠ "runtime.NumGoroutine") (hb : fn.body.isSome = true) (args : Array Value) (w : World) : (callFunc f args).run P w = .ok (.enter f args) w := by
 have h3 : fn.body ≠ none := by cases h : fn.body <;> simp_all
 simp [callFunc, run_program, hf, hn, h3]
def M5 (X : Nat -> Prop) (w : World) (β : List BI) (H : List Blk) (r : AV) (H' : List Blk) (o : Oper) (a : Act) (K : Act -> World -> Prop) : Prop :=
 ∀ (u : Value) (w' : World) (β' : List BI), HRel w' X β' H' -> StepR w β H w' β' H' -> Rep w' (Mu X β' H') β' H' u r -> K (a.put o.dst u) w'
theorem dH {o : Oper} {a : Act} {K : Act -> World -> Prop} {Q : Exit -> Act -> World -> Prop} {u : Value} (h : (execOp a.eval o).run C.P w = .ok (.value u) w') (hK : K (a.put o.dst u) w') : o.wp C.P a w K Q := by
 unfold Oper.wp
 rw [h]
 exact hK
theorem mE {o : Oper} {a : Act} {K : Act -> World -> Prop} {Q : Exit -> Act -> World -> Prop} {f : FuncId} {args : Array Value} (h : (execOp a.eval o).run C.P w = .ok (.enter f args) w)
  (hK : Calls C.P f args w λ e w' => ∃ v, e = .returned v /\ K (a.put o.dst v) w') : o.wp C.P a w K Q := by
 unfold Oper.wp
 rw [h]
 exact hK.mono λ e w' ⟨v, he, hk⟩ => by subst he; exact hk
theorem vN (R : HRel w X β H) {f : FuncId} {p : List AV -> Option (Prop × AV)} (hx : uN C.P f p) {args : Array Value} {avs : List AV} (hsz : args.size = avs.length) (harg : ∀ (j : Nat) (u : AV), avs[j]? = some u -> ∃ v, args[j]? = some v /\ Rep w (Mu X β H) β H v u)
  {ob : Prop} {r : AV} (hp : p (avs.map (aX H 6)) = some (ob, r)) (hob : ob) (hfd : (r.isFlat || avs.all AV.deepArg) = true) : ∃ v, (callFunc f args).run C.P w = .ok (.value v) w /\ Rep w (Mu X β H) β H v r := by
 simp only [Bool.or_eq_true] at hfd
 by_cases hda : avs.all AV.deepArg = true
 ·obtain ⟨v, h1, h2⟩ := hx w (Mu X β H) args (avs.map (aX H 6)) ob r (by simp [hsz]) (λ j u hu => by
   rw [getElem?_map] at hu
   simp only [map_eq_some_iff] at hu
   obtain ⟨av, hav, rfl⟩ := hu
   have hdd := all_eq_true.1 hda av (mem_of_getElem? hav)
   obtain ⟨v, k1, k2⟩ := harg j av hav
   rw [jA hdd]
   exact ⟨v, k1, fZ hdd k2⟩) hp hob
  exact ⟨v, h1, .deep h2⟩
 ·have hfl := hfd.resolve_right hda
  obtain ⟨v, h1, h2⟩ := hx w X args (avs.map (aX H 6)) ob r (by simp [hsz]) (λ j u hu => by
   rw [getElem?_map] at hu
   simp only [map_eq_some_iff] at hu
   obtain ⟨av, hav, rfl⟩ := hu
   obtain ⟨v, k1, k2⟩ := harg j av hav
   exact ⟨v, k1, (cw R (λ _ => True) 6 k2 (λ _ _ => trivial)).mono λ b _ hb => .inl hb⟩) hp hob
  exact ⟨v, h1, .deep (pG hfl h2)⟩
theorem fV (hS : aB C) {a : Act} {st : ASt} (R : HRel w X β st.H) (T : i8 w (Mu X β st.H) β st.H a st.ρ) (G : lL C w (Mu X β st.H)) {o : Oper} {ob : Prop} {r : AV} {H' : List Blk} (h : aL C st o = some (ob, r, H')) (hob : ob)
  {K : Act -> World -> Prop} {Q : Exit -> Act -> World -> Prop} (hK : M5 X w β st.H r H' o a K) : o.wp C.P a w K Q := by
 have quiet : ∀ {u : Value} {w' : World}, (execOp a.eval o).run C.P w = .ok (.value u) w' -> Keeps (λ _ => False) w w' -> H' = st.H -> Rep w' (Mu X β st.H) β st.H u r -> o.wp C.P a w K Q := by
  intro u w' h1 h2 h3 h4
  subst h3
  exact dH h1 (hK u w' β (R.quiet h2) (StepR.quiet h2 R.len) h4)
 have E := λ t x => cY (C := C) T G t x
 unfold aL at h
 split at h
 ·rename_i hkd
  clear hkd
  split at h
  ·rename_i ob' v hp
   injection h with h; injection h with e1 e2; injection e2 with e2 e3; subst e1 e2
   obtain ⟨u, w', h1, h2, h3⟩ := u9 T G R.mu_lt hp hob
   exact quiet h1 h2 e3.symm h3
  ·cases h
 ·rename_i hkd
  clear hkd
  split at h
  ·rename_i ob' v hr
   injection h with h; injection h with e1 e2; injection e2 with e2 e3; subst e1 e2
   obtain ⟨dst, op, type, pos, after, guard⟩ := o
   unfold nv at hr
   simp only at hr
   split at hr
   ·rename_i t p
    obtain ⟨u, h1, h2⟩ := nt R hr hob (E _ p)
    exact quiet (w' := w) (by simp only [execOp, Sem.run_bind, h1, Result.andThen_ok, Sem.run_pure]) (Keeps.refl _ _) e3.symm h2
   ·rename_i t len parts
    split at hr
    ·rename_i hd
     cases he : elT C.P t with
     | none => simp [ce, he] at hr
     | some e =>
      obtain ⟨u, w', h1, h2, h3⟩ := ic (w := w) (Y := Mu X β st.H) hr (vparts := parts.map λ (i, x) => (i, a.eval x)) (by simp [bD, he]) (λ j k u hj => by
       have hmem := mem_of_getElem? hj
       have hd' := all_eq_true.1 hd _ hmem
       simp only [bD, he, getElem?_map, map_eq_some_iff] at hj
       obtain ⟨⟨k', x⟩, hj1, hj2⟩ := hj
       injection hj2 with hj2 hj3
       simp only at hj2 hj3
       subst hj2 hj3
       simp only [Array.getElem?_toList] at hj1
       exact ⟨a.eval x, by simp [hj1], fZ hd' (E _ x)⟩) R.mu_lt
      exact quiet (by simp only [execOp, Sem.run_bind, h1, Result.andThen_ok, Sem.run_pure]) h2 e3.symm (.deep h3)
    ·cases hr
   ·rename_i src dst' x
    obtain ⟨u, h1, h2⟩ := nR R hr hob (E _ x)
    exact quiet (w' := w) (by simp only [execOp, Sem.run_bind, h1, Result.andThen_ok, Sem.run_pure]) (Keeps.refl _ _) e3.symm h2
   ·rename_i t m x ok
    have hm := E t m
    unfold ac at hr
    split at hr
    ·rename_i l hl
     rw [hl] at hm
     obtain ⟨u, h1, h2⟩ := s8 R hr hm (E 0 x)
     exact quiet (w' := w) (by simp only [execOp, Sem.run_bind, h1, Result.andThen_ok, Sem.run_pure]) (Keeps.refl _ _) e3.symm h2
    ·rename_i kb ents hl
     rw [hl] at hm
     obtain ⟨u, h1, h2⟩ := s7 hr hm (E 0 x)
     exact quiet (w' := w) (by simp only [execOp, Sem.run_bind, h1, Result.andThen_ok, Sem.run_pure]) (Keeps.refl _ _) e3.symm h2
    ·obtain ⟨u, h1, h2⟩ := u4 G hr hob hm (E 0 x)
     exact quiet (w' := w) (by simp only [execOp, Sem.run_bind, h1, Result.andThen_ok, Sem.run_pure]) (Keeps.refl _ _) e3.symm h2
   ·rename_i c
    split at hr
    ·rename_i f avs htg
     split at hr
     ·rename_i p hp
      have hok := hS f
      rw [hp] at hok
      obtain ⟨args, hrun, hsz, harg⟩ := ms T G htg
      unfold dI at hr
      split at hr
      ·rename_i ob1 r1 hpr
       split at hr
       ·rename_i hfd
        injection hr with hr; injection hr with e1 e2; subst e1 e2
        rcases hok with hok | hx
        case' inr =>
         obtain ⟨v, v1, v2⟩ := vN R hx hsz harg hpr hob hfd
         exact quiet (w' := w) (by simp only [execOp]; rw [hrun type, v1]) (Keeps.refl _ _) e3.symm v2
        obtain ⟨hok, fn, hf1, hf2, hf3⟩ := hok
        have hrun' : (execOp a.eval { dst, op := .call c, type, pos, after, guard : Oper }).run C.P w = .ok (.enter f args) w := by
         simp only [execOp]
         rw [hrun type, gH hf1 hf2 hf3]
        refine mE hrun' ?_
        simp only [Bool.or_eq_true] at hfd
        by_cases hda : avs.all AV.deepArg = true
        ·have := hok w (Mu X β st.H) args (avs.map (aX st.H 6)) ob1 r1 R.mu_lt G (by simp [hsz]) (λ j u hu => by
          rw [getElem?_map] at hu
          simp only [map_eq_some_iff] at hu
          obtain ⟨av, hav, rfl⟩ := hu
          have hdd := all_eq_true.1 hda av (mem_of_getElem? hav)
          obtain ⟨v, k1, k2⟩ := harg j av hav
          rw [jA hdd]
          exact ⟨v, k1, fZ hdd k2⟩) hpr hob
         refine this.mono λ e w' ⟨v, he, hk, hv⟩ => ⟨v, he, ?_⟩
         subst e3
         exact hK v w' β (R.quiet hk) (StepR.quiet hk R.len) (.deep hv)
        ·have hfl := hfd.resolve_right hda
         have := hok w X args (avs.map (aX st.H 6)) ob1 r1 R.base (λ g => (G g).mono λ b _ hb => .inl hb) (by simp [hsz]) (λ j u hu => by
          rw [getElem?_map] at hu
          simp only [map_eq_some_iff] at hu
          obtain ⟨av, hav, rfl⟩ := hu
          obtain ⟨v, k1, k2⟩ := harg j av hav
          exact ⟨v, k1, (cw R (λ _ => True) 6 k2 (λ _ _ => trivial)).mono λ b _ hb => .inl hb⟩) hpr hob
         refine this.mono λ e w' ⟨v, he, hk, hv⟩ => ⟨v, he, ?_⟩
         subst e3
         exact hK v w' β (R.quiet hk) (StepR.quiet hk R.len) (.deep (pG hfl hv))
       ·cases hr
      ·cases hr
     ·cases hr
    ·cases hr
   ·cases hr
  ·cases h
 ·rename_i hkd
  clear hkd
  obtain ⟨dst, op, type, pos, after, guard⟩ := o
  unfold o9 at h
  simp only at h
  split at h
  ·rename_i t
   cases hz : zT C.P t with
   | none => rw [hz] at h; simp [pi] at h
   | some z =>
    rw [hz] at h
    obtain ⟨i, zv, z1, z2, z3, z4, z5, z6, z7⟩ := cN hz
    obtain ⟨β', h1, h2, h3⟩ := pj R h (uI z6 z7)
    refine dH (u := .pointer (some ⟨w.heap.size, 0, none⟩)) (w' := w.alloc (.cells zv.cells t)) ?_ (hK _ _ β' h1 h2 h3)
    simp [execOp, Instr.alloc, zeroValue, typeInfo, z1, z2, newVar, newRow]
  ·rename_i t x
   cases hc : fP C t (aev C st.ρ t x) with
   | none => rw [hc] at h; simp [pi] at h
   | some cs =>
    rw [hc] at h
    obtain ⟨c1, _⟩ := fQ hc (E t x)
    obtain ⟨β', h1, h2, h3⟩ := pj R h c1
    refine dH (u := .pointer (some ⟨w.heap.size, 0, none⟩)) (w' := w.alloc (.cells (a.eval x).cells t)) ?_ (hK _ _ β' h1 h2 h3)
    simp [execOp, Instr.box, newVar, newRow]
  ·rename_i t p x
   obtain ⟨w', β', h1, h2, h3, rfl⟩ := th R h hob (E 0 p) (E t x)
   unfold Oper.wp
   simp only [execOp, Sem.run_bind, h1, Result.andThen_ok, Sem.run_pure]
   exact hK undef w' β' h2 h3 (.tup #[] [] (λ _ => undef) rfl (λ j hj => by simp at hj) (λ j v hj => by simp at hj))
  ·rename_i t len parts
   split at h
   ·cases he : elT C.P t with
    | none => simp [gM, he] at h
    | some e =>
     obtain ⟨u, w', β', h1, h2, h3, h4⟩ := nS R h (vparts := parts.map λ (i, x) => (i, a.eval x)) (by simp [bD, he]) (λ j k u hj => by
      simp only [bD, he, getElem?_map, map_eq_some_iff] at hj
      obtain ⟨⟨k', x⟩, hj1, hj2⟩ := hj
      injection hj2 with hj2 hj3
      simp only at hj2 hj3
      subst hj2 hj3
      simp only [Array.getElem?_toList] at hj1
      exact ⟨a.eval x, by simp [hj1], E _ x⟩)
     exact dH (by simp only [execOp, Sem.run_bind, h1, Result.andThen_ok, Sem.run_pure]) (hK u w' β' h2 h3 h4)
   split at h
   ·rename_i ob' v hb
    injection h with h; injection h with e1 e2; injection e2 with e2 e3; subst e1 e2 e3
    cases he : elT C.P t with
    | none => simp [ce, he] at hb
    | some e =>
     have L : ∀ l, l ∈ (bD C st.ρ t parts.toList).flatMap (λ p => bo st.H 6 p.2) ↔ l ∈ (bD C st.ρ t parts.toList).flatMap (λ p => bo st.H 6 p.2) := λ _ => Iff.rfl
     generalize hls : (bD C st.ρ t parts.toList).flatMap (λ p => bo st.H 6 p.2) = ls at *
     obtain ⟨u, w', h1, h2, h3⟩ := ic (w := w) (Y := XL X β st.H (λ l => l ∈ ls)) hb (vparts := parts.map λ (i, x) => (i, a.eval x)) (by simp [bD, he]) (λ j k u hj => by
      rw [getElem?_map] at hj
      simp only [map_eq_some_iff] at hj
      obtain ⟨⟨k0, av⟩, hj0, hj2⟩ := hj
      have hmem := mem_of_getElem? hj0
      injection hj2 with hj2 hj3
      simp only at hj2 hj3
      subst hj2 hj3
      have hj1 := hj0
      simp only [bD, he, getElem?_map, map_eq_some_iff] at hj1
      obtain ⟨⟨k', x⟩, hj1, hj2⟩ := hj1
      injection hj2 with hj2 hj3
      simp only at hj2 hj3
      subst hj2 hj3
      simp only [Array.getElem?_toList] at hj1
      refine ⟨a.eval x, by simp [hj1], cw R _ 6 (E _ x) λ l hl => ?_⟩
      rw [<- hls]
      exact List.mem_flatMap.2 ⟨_, hmem, hl⟩) (λ b hb => R.mu_lt b (np hb))
     have R' := pH R ls
     refine dH (u := u) (w' := w') (by simp only [execOp, Sem.run_bind, h1, Result.andThen_ok, Sem.run_pure]) (hK u w' β (R'.quiet h2) ((lW R ls).trans (StepR.quiet h2 R'.len)) (.deep (h3.mono λ b _ hb => xE hb)))
   ·cases h
  ·rename_i t l c
   obtain ⟨u, w', β', h1, h2, h3, h4⟩ := u5 R h hob (E 0 l) (E 0 c)
   exact dH (by simp only [execOp, Sem.run_bind, h1, Result.andThen_ok, Sem.run_pure]) (hK u w' β' h2 h3 h4)
  ·rename_i t
   obtain ⟨u, w', β', h1, h2, h3, h4⟩ := pg (C := C) R h
   exact dH (by simp only [execOp, Option.map_none, Sem.run_bind, h1, Result.andThen_ok, Sem.run_pure]) (hK u w' β' h2 h3 h4)
  ·rename_i t m x v
   obtain ⟨w', β', h1, h2, h3, rfl⟩ := vd R h hob (E 0 m) (E 0 x) (E 0 v)
   unfold Oper.wp
   simp only [execOp, Sem.run_bind, h1, Result.andThen_ok, Sem.run_pure]
   exact hK undef w' β' h2 h3 (.tup #[] [] (λ _ => undef) rfl (λ j hj => by simp at hj) (λ j v hj => by simp at hj))
  ·rename_i c
   split at h
   ·obtain ⟨callee, cargs, ctypes⟩ := c
    rename_i hcal
    simp only at hcal h
    subst hcal
    split at h
    ·rename_i s x t t' hargs htys
     split at h
     ·rename_i htt
      subst htt
      obtain rfl : cargs = #[s, x] := by rw [<- Array.toList_inj, hargs]
      obtain rfl : ctypes = #[t, t] := by rw [<- Array.toList_inj, htys]
      obtain ⟨u, w', β', h1, h2, h3, h4⟩ := uO R h hob (E t s) (E t x) type
      refine dH (u := u) (w' := w') ?_ (hK u w' β' h2 h3 h4)
      simp only [execOp, resolve, invoke, builtin, Sem.run_bind, Sem.run_pure, Result.andThen_ok, map_toArray, map_cons, map_nil, h1]
     ·cases h
    ·cases h
   ·obtain ⟨callee, cargs, ctypes⟩ := c
    rename_i hcal
    simp only at hcal h
    subst hcal
    split at h
    ·rename_i s t hargs htys
     obtain rfl : cargs = #[s] := by rw [<- Array.toList_inj, hargs]
     obtain rfl : ctypes = #[t] := by rw [<- Array.toList_inj, htys]
     obtain ⟨w', β', h1, h2, h3, rfl⟩ := sR R h hob (E t s) type
     refine dH (u := .tuple #[]) (w' := w') ?_ (hK _ w' β' h2 h3 (.tup #[] [] (λ _ => undef) rfl (λ j hj => by simp at hj) (λ j v hj => by simp at hj)))
     simp only [execOp, resolve, invoke, builtin, Sem.run_bind, Sem.run_pure, Result.andThen_ok, map_toArray, map_cons, map_nil, h1]
    ·cases h
   ·obtain ⟨callee, cargs, ctypes⟩ := c
    rename_i hcal
    simp only at hcal h
    subst hcal
    split at h
    ·rename_i s x t t' hargs htys
     split at h
     ·rename_i htt
      subst htt
      obtain rfl : cargs = #[s, x] := by rw [<- Array.toList_inj, hargs]
      obtain rfl : ctypes = #[t, t] := by rw [<- Array.toList_inj, htys]
      obtain ⟨u, w', β', h1, h2, h3, h4⟩ := uU R h hob (E t s) (E t x) type
      refine dH (u := u) (w' := w') ?_ (hK u w' β' h2 h3 h4)
      simp only [execOp, resolve, invoke, builtin, Sem.run_bind, Sem.run_pure, Result.andThen_ok, map_toArray, map_cons, map_nil, h1]
     ·cases h
    ·cases h
   ·obtain ⟨callee, cargs, ctypes⟩ := c
    rename_i hcal
    simp only at hcal h
    subst hcal
    split at h
    ·rename_i m x xr t tr hargs htys
     obtain ⟨w', β', h1, h2, h3, rfl⟩ := uX R h (E 0 m) (E 0 x) ctypes (by rw [<- Array.getElem?_toList, htys]; rfl) (cargs.map a.eval) (by rw [Array.getElem?_map, <- Array.getElem?_toList, hargs]; rfl) (by rw [Array.getElem?_map, <- Array.getElem?_toList, hargs]; rfl) type
     refine dH (u := .tuple #[]) (w' := w') ?_ (hK _ w' β' h2 h3 (.tup #[] [] (λ _ => undef) rfl (λ j hj => by simp at hj) (λ j v hj => by simp at hj)))
     simp only [execOp, resolve, invoke, builtin, Sem.run_bind, Sem.run_pure, Result.andThen_ok, h1]
    ·cases h
   ·split at h
    ·rename_i f avs htg
     obtain ⟨args, hrun, hsz, harg⟩ := ms T G htg
     have hok := hS f
     split at h
     ·rename_i p hp
      rw [hp] at hok
      split at h
      ·rename_i ob1 r1 hr
       injection h with h; injection h with e1 e2; injection e2 with e2 e3; subst e1 e2
       unfold dI at hr
       split at hr
       ·rename_i ob1 r1 hpr
        split at hr
        ·rename_i hfd
         injection hr with hr; injection hr with e1 e2; subst e1 e2
         rcases hok with hok | hx
         case' inr =>
          obtain ⟨v, v1, v2⟩ := vN R hx hsz harg hpr hob hfd
          exact quiet (w' := w) (by simp only [execOp]; rw [hrun type, v1]) (Keeps.refl _ _) e3.symm v2
         obtain ⟨hok, fn, hf1, hf2, hf3⟩ := hok
         have hrun' : (execOp a.eval { dst, op := .call c, type, pos, after, guard : Oper }).run C.P w = .ok (.enter f args) w := by
          simp only [execOp]
          rw [hrun type, gH hf1 hf2 hf3]
         refine mE hrun' ?_
         simp only [Bool.or_eq_true] at hfd
         by_cases hda : avs.all AV.deepArg = true
         ·have := hok w (Mu X β st.H) args (avs.map (aX st.H 6)) ob1 r1 R.mu_lt G (by simp [hsz]) (λ j u hu => by
           rw [getElem?_map] at hu
           simp only [map_eq_some_iff] at hu
           obtain ⟨av, hav, rfl⟩ := hu
           have hdd := all_eq_true.1 hda av (mem_of_getElem? hav)
           obtain ⟨v, k1, k2⟩ := harg j av hav
           rw [jA hdd]
           exact ⟨v, k1, fZ hdd k2⟩) hpr hob
          refine this.mono λ e w' ⟨v, he, hk, hv⟩ => ⟨v, he, ?_⟩
          subst e3
          exact hK v w' β (R.quiet hk) (StepR.quiet hk R.len) (.deep hv)
         ·have hfl := hfd.resolve_right hda
          have := hok w X args (avs.map (aX st.H 6)) ob1 r1 R.base (λ g => (G g).mono λ b _ hb => .inl hb) (by simp [hsz]) (λ j u hu => by
           rw [getElem?_map] at hu
           simp only [map_eq_some_iff] at hu
           obtain ⟨av, hav, rfl⟩ := hu
           obtain ⟨v, k1, k2⟩ := harg j av hav
           exact ⟨v, k1, (cw R (λ _ => True) 6 k2 (λ _ _ => trivial)).mono λ b _ hb => .inl hb⟩) hpr hob
          refine this.mono λ e w' ⟨v, he, hk, hv⟩ => ⟨v, he, ?_⟩
          subst e3
          exact hK v w' β (R.quiet hk) (StepR.quiet hk R.len) (.deep (pG hfl hv))
        ·cases hr
       ·cases hr
      ·cases h
     ·rename_i p hp
      rw [hp] at hok
      obtain ⟨hok, fn, hf1, hf2, hf3⟩ := hok
      have hrun' : (execOp a.eval { dst, op := .call c, type, pos, after, guard : Oper }).run C.P w = .ok (.enter f args) w := by
       simp only [execOp]
       rw [hrun type, gH hf1 hf2 hf3]
      split at h
      ·rename_i ob1 r1 hpr
       injection h with h; injection h with e1 e2; injection e2 with e2 e3; subst e1 e2 e3
       refine mE hrun' ?_
       have := hok w (XL X β st.H (λ l => l ∈ avs.flatMap (bo st.H 6))) args (avs.map (aX st.H 6)) ob1 r1 (λ b hb => R.mu_lt b (np hb)) (λ g => (G g).mono λ b _ hb => np hb) (by simp [hsz]) (λ j u hu => by
        rw [getElem?_map] at hu
        simp only [map_eq_some_iff] at hu
        obtain ⟨av, hav, rfl⟩ := hu
        obtain ⟨v, k1, k2⟩ := harg j av hav
        exact ⟨v, k1, cw R _ 6 k2 λ l hl => List.mem_flatMap.2 ⟨av, mem_of_getElem? hav, hl⟩⟩) hpr hob
       have R' := pH R (avs.flatMap (bo st.H 6))
       refine this.mono λ e w' ⟨v, he, hk, hv⟩ => ⟨v, he, ?_⟩
       exact hK v w' β (R'.quiet hk) ((lW R _).trans (StepR.quiet hk R'.len)) (.deep (hv.mono λ b _ hb => xE hb))
      ·cases h
     ·rename_i g hg
      rw [hg] at hok
      obtain ⟨hok, fn, hf1, hf2, hf3⟩ := hok
      have hrun' : (execOp a.eval { dst, op := .call c, type, pos, after, guard : Oper }).run C.P w = .ok (.enter f args) w := by
       simp only [execOp]
       rw [hrun type, gH hf1 hf2 hf3]
      refine mE hrun' ?_
      refine (hok w X β st.H args avs ob r H' R G hsz harg h hob).mono λ e w' ⟨v, β', he, h1, h2, h3⟩ => ⟨v, he, hK v w' β' h1 h2 h3⟩
     ·cases h
    ·cases h
  ·cases h
end
def Rel (C : Ctx) (N : Nat) (X : Nat -> Prop) (w0 : World) (β0 : List BI) (H0 : List Blk) (st : ASt) (a : Act) (w : World) : Prop :=
 ∃ β, HRel w X β st.H /\ StepR w0 β0 H0 w β st.H /\ i8 w (Mu X β st.H) β st.H a st.ρ /\ lL C w (Mu X β st.H) /\ a.tmps.size = N /\ a.defers = []
section
variable {C : Ctx} {N : Nat} {X : Nat -> Prop} {w0 : World} {β0 : List BI} {H0 : List Blk}
theorem Fb {w w' : World} {β β' : List BI} {H H' : List Blk} {a : Act} {ρ : List (Nat × AV)} (T : i8 w (Mu X β H) β H a ρ) (S : StepR w β H w' β' H') {u : Value} {r : AV} (hr : Rep w' (Mu X β' H') β' H' u r) (dst : Option Tmp) (hd : ∀ d, dst = some d -> d < a.tmps.size) :
  i8 w' (Mu X β' H') β' H' (a.put dst u) (dP ρ dst r) := by
 intro t
 cases dst with
 | none => exact (T t).keep S
 | some d =>
  have hd := hd d rfl
  simp only [dP, aQ, Act.put]
  split
  ·rename_i e
   subst e
   have : (a.tmps.setIfInBounds d u).getD d undef = u := by simp [Array.getD_eq_getD_getElem?, hd]
   rw [this]
   exact hr
  ·rename_i e
   have : (a.tmps.setIfInBounds d u).getD t undef = a.tmps.getD t undef := by
    simp [Array.getD_eq_getD_getElem?, Array.getElem?_setIfInBounds_ne e]
   rw [this]
   exact (T t).keep S
theorem fR {w w' : World} {β β' : List BI} {st : ASt} {H' : List Blk} {a : Act} (S0 : StepR w0 β0 H0 w β st.H) (T : i8 w (Mu X β st.H) β st.H a st.ρ) (G : lL C w (Mu X β st.H)) (hN : a.tmps.size = N) (hdef : a.defers = [])
  {u : Value} {r : AV} (R' : HRel w' X β' H') (S : StepR w β st.H w' β' H') (hr : Rep w' (Mu X β' H') β' H' u r) (dst : Option Tmp) (hd : ∀ d, dst = some d -> d < N) : Rel C N X w0 β0 H0 ⟨dP st.ρ dst r, H'⟩ (a.put dst u) w' := by
 refine ⟨β', R', S0.trans S, Fb T S hr dst (λ d h => by rw [hN]; exact hd d h), λ g => (G g).keep (λ b hb hn => S.keeps.block b hb (λ hm => hn (.inr hm))) S.keeps.size (λ b hb => S.mu b hb), ?_, ?_⟩
 ·cases dst with
  | none => exact hN
  | some d => simp [Act.put, hN]
 ·cases dst with
  | none => exact hdef
  | some d => exact hdef
theorem kA {w : World} {β : List BI} {H : List Blk} {a : Act} {ρ : List (Nat × AV)} (T : i8 w X β H a ρ) {ops : Array Oper} {o : Oper} {g : Bool} (h : b9 ops ρ o = some g) : Region.wanted o (yielded ops a.tmps) = g := by
 unfold b9 at h
 unfold Region.wanted
 split at h
 ·rename_i hg
  injection h with h
  rw [hg]
  exact h
 ·rename_i j want hg
  rw [hg]
  simp only
  split at h
  ·rename_i d hd
   have hT := T d
   split at h
   ·rename_i b hb
    injection h with h
    subst h
    rw [hb] at hT
    have h1 := cR hT
    have h2 : a.tmps[d]? = some (.bool b) := by
     rw [Array.getD_eq_getD_getElem?] at h1
     cases hh : a.tmps[d]? with
     | none => rw [hh] at h1; cases h1
     | some x => rw [hh] at h1; simp at h1; rw [h1]
    unfold yielded
    rw [hd]
    simp [h2]
   ·rename_i hb
    injection h with h
    subst h
    rw [hb] at hT
    obtain ⟨cs, val, h1, hl, _⟩ := fT hT
    have hcs : cs = #[] := Array.eq_empty_of_size_eq_zero (by simpa using hl)
    subst hcs
    unfold yielded
    rw [hd]
    rw [Array.getD_eq_getD_getElem?] at h1
    cases hh : a.tmps[d]? with
    | none => simp [hh]
    | some x => rw [hh] at h1; simp at h1; subst h1; simp [hh]
   ·cases h
  ·cases h
theorem qd {w : World} {Y : Nat -> Prop} {β : List BI} {H : List Blk} : Rep w Y β H undef (.tup []) :=
 .tup #[] [] (λ _ => undef) rfl (λ j hj => by simp at hj) (λ j v hj => by simp at hj)
theorem dr (hS : aB C) {ops : Array Oper} {Q : Exit -> Act -> World -> Prop} : ∀ (l : List Oper), (∀ o ∈ l, ∀ d, o.dst = some d -> d < N) -> ∀ {st : ASt} {K : ASt -> Prop} {a : Act} {w : World}, eF C ops l st K -> Rel C N X w0 β0 H0 st a w ->
  (∀ st' a' w', Rel C N X w0 β0 H0 st' a' w' -> K st' -> Q .normal a' w') -> wpList C.P ops Q l a w
 | [], _, st, K, a, w, h, hr, hQ => hQ st a w hr h
 | o :: r, hd, st, K, a, w, h, hr, hQ => by
  obtain ⟨β, R, S0, T, G, hN, hdef⟩ := hr
  unfold eF at h
  split at h
  ·exact h.elim
  ·rename_i g hg
   have hw := kA T hg
   have ih := λ {st : ASt} {a : Act} {w : World} => dr hS r (λ o ho => hd o (mem_cons_of_mem _ ho)) (st := st) (K := K) (a := a) (w := w) (ops := ops) (Q := Q)
   unfold wpList
   rw [hw]
   cases g with
   | true =>
    have h := h.1 rfl
    split at h
    ·rename_i ob v H' hst
     rw [if_pos rfl]
     refine .inl (fV hS R T G hst h.1 λ u w' β' R' S hr => ih h.2 (fR S0 T G hN hdef R' S hr o.dst (hd o (by simp))) hQ)
    ·exact h.elim
   | false =>
    have h := h.2 rfl
    rw [if_neg (by simp)]
    exact ih h (fR S0 T G hN hdef R (StepR.refl _ _ _ R.len) qd o.dst (hd o (by simp))) hQ
end
section
variable {C : Ctx} {ρ ρ' : List (Nat × AV)} {H : List Blk}
theorem AP {t : TypeId} {x : Operand} (h : ∀ i, x = .tmp i -> aQ ρ i = aQ ρ' i) : aev C ρ t x = aev C ρ' t x := by
 cases x with
 | tmp i => exact h i rfl
 | _ => rfl
theorem eZ : ∀ {xs : List Operand} {ts : List TypeId}, (∀ x ∈ xs, ∀ t, aev C ρ t x = aev C ρ' t x) -> cy C ρ xs ts = cy C ρ' xs ts
 | [], ts, _ => by cases ts <;> rfl
 | x :: r, [], h => by simp only [cy, h x (by simp) 0, eZ (xs := r) (ts := []) (λ y hy => h y (mem_cons_of_mem _ hy))]
 | x :: r, t :: q, h => by simp only [cy, h x (by simp) t, eZ (xs := r) (ts := q) (λ y hy => h y (mem_cons_of_mem _ hy))]
theorem jn {lo : Option Operand} {t : TypeId} (h : ∀ x, lo = some x -> aev C ρ t x = aev C ρ' t x) : lo.map (aev C ρ t) = lo.map (aev C ρ' t) := by
 cases lo with
 | none => rfl
 | some x => simp [h x rfl]
theorem mr {c : Call} (h : ∀ x ∈ c.operands, ∀ t, aev C ρ t x = aev C ρ' t x) : target C ρ c = target C ρ' c := by
 have ha : ∀ x ∈ c.args.toList, ∀ t, aev C ρ t x = aev C ρ' t x := λ x hx => h x (by simp only [Call.operands]; exact Array.mem_append.2 (.inr (Array.mem_toList_iff.1 hx)))
 unfold target
 split
 ·rename_i f hf
  rw [h f (by simp [Call.operands, hf]) 0, eZ ha]
 ·rfl
theorem io {parts : List (Nat × Operand)} {ty : Nat -> TypeId} (h : ∀ x ∈ parts.map (·.2), ∀ t, aev C ρ t x = aev C ρ' t x) : (parts.map λ p => (p.1, aev C ρ (ty p.1) p.2)) = parts.map λ p => (p.1, aev C ρ' (ty p.1) p.2) :=
 List.map_congr_left λ p hp => by rw [h p.2 (mem_map.2 ⟨p, hp, rfl⟩)]
theorem rD {c : Call} (h : ∀ x ∈ c.operands, ∀ t, aev C ρ t x = aev C ρ' t x) : ∀ x ∈ c.args.toList, ∀ t, aev C ρ t x = aev C ρ' t x := λ x hx => h x (by simp only [Call.operands]; exact Array.mem_append.2 (.inr (Array.mem_toList_iff.1 hx)))
theorem sN {t : TypeId} {parts : List (Nat × Operand)} (hp : ∀ x ∈ parts.map (·.2), ∀ t, aev C ρ t x = aev C ρ' t x) : iy C ρ t parts = iy C ρ' t parts := by
 unfold iy
 cases zT C.P t with
 | none => rfl
 | some z =>
  simp only
  cases cZ C.P t with
  | none => simp only; rw [io (ty := tA C t) hp]
  | some ne =>
   obtain ⟨n, e⟩ := ne
   simp only
   rw [io (ty := λ _ => e) hp]
theorem u7 {o : Oper} (h : ∀ x ∈ o.op.operands, ∀ t, aev C ρ t x = aev C ρ' t x) : k8 C ρ o = k8 C ρ' o := by
 obtain ⟨dst, op, type, pos, after, guard⟩ := o
 simp only at h
 unfold k8
 simp only
 cases op <;> simp only [Op.operands] at h <;> try rfl
 case move x => simp only; rw [h x (by simp)]
 case assign x => simp only; rw [h x (by simp)]
 case pick c a b => simp only; rw [h c (by simp), h a (by simp), h b (by simp)]
 case binOp op t x y ty => simp only; rw [h x (by simp), h y (by simp)]
 case unOp op t x => simp only; rw [h x (by simp)]
 case convert s d x => simp only; rw [h x (by simp)]
 case field t x k => simp only; rw [h x (by simp)]
 case fieldAddr t x k => simp only; rw [h x (by simp)]
 case indexAddr t x ix => simp only; rw [h x (by simp), h ix (by simp)]
 case index t x ix => simp only; rw [h x (by simp), h ix (by simp)]
 case slice t x lo hi mx =>
  simp only
  rw [h x (by simp), jn (lo := lo) (λ y hy => h y (by subst hy; simp) _), jn (lo := hi) (λ y hy => h y (by subst hy; simp) _), jn (lo := mx) (λ y hy => h y (by subst hy; simp) _)]
 case extract x k => simp only; rw [h x (by simp)]
 case makeFunc fn first cap =>
  cases fn with
  | func f =>
   simp only
   have : cap.toList.map (aev C ρ 0) = cap.toList.map (aev C ρ' 0) := List.map_congr_left λ x hx => h x (Array.mem_append.2 (.inr (Array.mem_toList_iff.1 hx))) 0
   have h2 : first.toList.map (aev C ρ 0) = first.toList.map (aev C ρ' 0) := List.map_congr_left λ x hx => h x (Array.mem_append.2 (.inl (Array.mem_toList_iff.1 hx))) 0
   rw [this, h2]
  | _ => rfl
 case nilCheck x => simp only; rw [h x (by simp)]
 case build t parts =>
  have hp : ∀ x ∈ parts.toList.map (·.2), ∀ t, aev C ρ t x = aev C ρ' t x := λ x hx => h x (by simpa using hx)
  simp only
  rw [sN hp]
 case call c =>
  have ha := rD h
  obtain ⟨callee, args, argTypes⟩ := c
  simp only at ha ⊢
  split
  ·split
   ·rename_i x t hx ht
    rw [ha x (by rw [hx]; simp)]
   ·rfl
  ·rw [eZ ha]
  ·rw [eZ ha]
  ·rfl
theorem ve {o : Oper} (h : ∀ x ∈ o.op.operands, ∀ t, aev C ρ t x = aev C ρ' t x) : nv C ρ H o = nv C ρ' H o := by
 obtain ⟨dst, op, type, pos, after, guard⟩ := o
 simp only at h
 unfold nv
 simp only
 cases op <;> simp only [Op.operands] at h <;> try rfl
 case load t p => simp only; rw [h p (by simp)]
 case buildSlice t len parts =>
  have hp : ∀ x ∈ parts.toList.map (·.2), ∀ t, aev C ρ t x = aev C ρ' t x := λ x hx => h x (by simpa using hx)
  have : bD C ρ t parts.toList = bD C ρ' t parts.toList := by
   unfold bD
   split
   ·rename_i e _; exact io (ty := λ _ => e) hp
   ·rfl
  simp only
  rw [this]
 case convert s d x => simp only; rw [h x (by simp)]
 case lookup t m x ok => simp only; rw [h m (by simp), h x (by simp)]
 case call c => simp only; rw [mr h]
theorem xI {o : Oper} (h : ∀ x ∈ o.op.operands, ∀ t, aev C ρ t x = aev C ρ' t x) : o9 C ρ H o = o9 C ρ' H o := by
 obtain ⟨dst, op, type, pos, after, guard⟩ := o
 simp only at h
 unfold o9
 simp only
 cases op <;> simp only [Op.operands] at h <;> try rfl
 case box t x => simp only; rw [h x (by simp)]
 case store t p x => simp only; rw [h p (by simp), h x (by simp)]
 case buildSlice t len parts =>
  have hp : ∀ x ∈ parts.toList.map (·.2), ∀ t, aev C ρ t x = aev C ρ' t x := λ x hx => h x (by simpa using hx)
  have : bD C ρ t parts.toList = bD C ρ' t parts.toList := by
   unfold bD
   split
   ·rename_i e _; exact io (ty := λ _ => e) hp
   ·rfl
  simp only
  rw [this]
 case makeSlice t l c => simp only; rw [h l (by simp), h c (by simp)]
 case makeMap t r => cases r <;> rfl
 case mapUpdate t m x v => simp only; rw [h m (by simp), h x (by simp), h v (by simp)]
 case call c =>
  have ha := rD h
  have ht := mr h
  obtain ⟨callee, args, argTypes⟩ := c
  simp only at ha ⊢
  split
  ·split
   ·rename_i s x t t' hx _
    rw [ha s (by rw [hx]; simp), ha x (by rw [hx]; simp)]
   ·rfl
  ·split
   ·rename_i s t hx _
    rw [ha s (by rw [hx]; simp)]
   ·rfl
  ·split
   ·rename_i s x t t' hx _
    rw [ha s (by rw [hx]; simp), ha x (by rw [hx]; simp)]
   ·rfl
  ·split
   ·rename_i m x _ t _ hx _
    rw [ha m (by rw [hx]; simp), ha x (by rw [hx]; simp)]
   ·rfl
  ·rw [ht]
theorem nz {o : Oper} (h : ∀ x ∈ o.op.operands, ∀ t, aev C ρ t x = aev C ρ' t x) : aL C ⟨ρ, H⟩ o = aL C ⟨ρ', H⟩ o := by
 unfold aL
 cases bT C o with
 | pure => simp only [u7 h]
 | read => simp only [ve h]
 | eff => simp only [xI h]
theorem po {o : Oper} (hk : bT C o = .pure) {ob : Prop} {v : AV} {H' : List Blk} (h : aL C ⟨ρ, H⟩ o = some (ob, v, H')) : H' = H /\ ∀ H2, aL C ⟨ρ, H2⟩ o = some (ob, v, H2) := by
 unfold aL at h ⊢
 rw [hk] at h
 simp only at h
 rw [hk]
 split at h
 ·rename_i h1
  injection h with h; injection h with e1 e2; injection e2 with e2 e3; subst e1 e2 e3
  refine ⟨rfl, λ H2 => ?_⟩
  simp only [h1]
 ·cases h
theorem lr {o : Oper} (hk : bT C o = .read) {ob : Prop} {v : AV} {H' : List Blk} (h : aL C ⟨ρ, H⟩ o = some (ob, v, H')) : H' = H := by
 unfold aL at h
 rw [hk] at h
 simp only at h
 split at h
 ·injection h with h; injection h with e1 e2; injection e2 with e2 e3; exact e3.symm
 ·cases h
end
def cV (o : Oper) : List Nat := (o.after.toList.filter λ e => Region.binds .any e).map (·.on)
def xQ : List Oper -> List (List Nat) -> List (List Nat)
 | [], acc => acc
 | o :: r, acc => xQ r (acc ++ [(cV o).foldl (λ s d => (d :: acc.getD d []).foldl (λ s x => if s.contains x then s else x :: s) s) []])
def aO (ops : Array Oper) (i : Nat) : Oper := ops.getD i default
def cF (C : Ctx) (o : Oper) : Bool := match bT C o with | .eff => true | _ => false
def mW (C : Ctx) (o : Oper) : Bool := match bT C o with | .pure => true | _ => false
def looks (ops : Array Oper) (o : Oper) : List Tmp :=
 (o.op.operands.toList.filterMap λ x => match x with | .tmp t => some t | _ => none) ++
 (match o.guard with
  | some (j, _) => match (ops[j]?).bind (·.dst) with | some d => [d] | none => []
  | none => [])
def zA (C : Ctx) (ops : Array Oper) (x y : Oper) : Bool :=
 (match x.dst with | some d => (looks ops y).contains d | none => false) || (cF C x && !mW C y)
def je (C : Ctx) (ops : Array Oper) (x y : Oper) : Bool :=
 (match x.dst with | some d => (looks ops y).contains d | none => false) || (cF C x && cF C y)
def p7 (ops : Array Oper) (cf : Oper -> Oper -> Bool) (B : Nat -> List Nat) (i : Nat) : Bool :=
 (cV (aO ops i)).all (λ d => decide (d < i)) &&
 (B i).all (λ x => decide (x < i) && ((cV (aO ops i)).contains x || (cV (aO ops i)).any λ d => (B d).contains x)) &&
 (List.range ops.size).all λ j => i == j ||
  ((!cf (aO ops i) (aO ops j) || (B j).contains i || (B i).contains j) &&
   (match (aO ops i).dst with | some d => (aO ops j).dst != some d | none => true))
def DQ (C : Ctx) (ops : Array Oper) : Bool :=
 (List.range ops.size).all (p7 ops (zA C ops) λ i => (xQ ops.toList []).getD i [])
def yu (C : Ctx) (ops : Array Oper) : Bool :=
 (List.range ops.size).all (p7 ops (je C ops) λ i => (xQ ops.toList []).getD i [])
section
variable {C : Ctx} {N : Nat} {X : Nat -> Prop} {w0 : World} {β0 : List BI} {H0 : List Blk}
structure Trace (C : Ctx) (ops : Array Oper) (k : Nat) (st : ASt) (v : Nat -> AV) (ρ : Nat -> List (Nat × AV)) (H : Nat -> List Blk) : Prop where
 ρ0 : ρ k = st.ρ
 H0 : H k = st.H
 step : ∀ i, k <= i -> i < ops.size -> ∃ g, b9 ops (ρ i) (aO ops i) = some g /\ (g = true -> ∃ ob, aL C ⟨ρ i, H i⟩ (aO ops i) = some (ob, v i, H (i + 1)) /\ ob) /\ (g = false -> v i = .tup [] /\ H (i + 1) = H i) /\ ρ (i + 1) = dP (ρ i) (aO ops i).dst (v i)
theorem pk {ops : Array Oper} : ∀ (l : List Oper) (k : Nat) (st : ASt) (K : ASt -> Prop), (∀ j : Nat, l[j]? = ops[k + j]?) -> k <= ops.size -> eF C ops l st K -> ∃ v ρ H, Trace C ops k st v ρ H /\ K ⟨ρ ops.size, H ops.size⟩
 | [], k, st, K, hl, hk, h => by
  have h0 := hl 0
  simp at h0
  have : k = ops.size := by omega
  subst this
  exact ⟨λ _ => .undef, λ _ => st.ρ, λ _ => st.H, ⟨rfl, rfl, λ i h1 h2 => by omega⟩, h⟩
 | o :: r, k, st, K, hl, hk, h => by
  have h0 := hl 0
  simp only [List.getElem?_cons_zero, add_zero] at h0
  have hlt : k < ops.size := (Array.getElem?_eq_some_iff.1 h0.symm).1
  have ho : aO ops k = o := by simp [aO, Array.getD_eq_getD_getElem?, <- h0]
  have hl' : ∀ j : Nat, r[j]? = ops[k + 1 + j]? := λ j => by have := hl (j + 1); rwa [List.getElem?_cons_succ, show k + (j + 1) = k + 1 + j by omega] at this
  unfold eF at h
  split at h
  ·exact h.elim
  ·rename_i g hg
   have fin : ∀ (vk : AV) (Hk : List Blk), ((g = true -> ∃ ob, aL C ⟨st.ρ, st.H⟩ o = some (ob, vk, Hk) /\ ob) /\ (g = false -> vk = .tup [] /\ Hk = st.H)) -> eF C ops r ⟨dP st.ρ o.dst vk, Hk⟩ K -> ∃ v ρ H, Trace C ops k st v ρ H /\ K ⟨ρ ops.size, H ops.size⟩ := by
    intro vk Hk hst hr
    obtain ⟨v, ρ, H, hT, hK⟩ := pk r (k + 1) _ K hl' (by omega) hr
    refine ⟨λ i => if i = k then vk else v i, λ i => if i = k then st.ρ else ρ i, λ i => if i = k then st.H else H i, ⟨by simp, by simp, λ i h1 h2 => ?_⟩, ?_⟩
    ·by_cases e : i = k
     ·subst e
      refine ⟨g, by simpa [ho] using hg, λ hgt => ?_, λ hgf => ?_, ?_⟩
      ·simp only [if_true, ho, Nat.succ_ne_self, if_false, hT.H0]
       exact hst.1 hgt
      ·simp only [if_true, Nat.succ_ne_self, if_false, hT.H0]
       exact hst.2 hgf
      ·simp only [if_true, ho, Nat.succ_ne_self, if_false, hT.ρ0]
     ·have := hT.step i (by omega) h2
      simp only [e, if_false, show ¬ i + 1 = k by omega]
      exact this
    ·have e : ¬ ops.size = k := by omega
     simpa only [e, if_false] using hK
   cases g with
   | true =>
    have h := h.1 rfl
    split at h
    ·rename_i ob vk Hk hst
     exact fin vk Hk ⟨λ _ => ⟨ob, hst, h.1⟩, λ h => by cases h⟩ h.2
    ·exact h.elim
   | false => exact fin (.tup []) st.H ⟨λ h => (by cases h), λ _ => ⟨rfl, rfl⟩⟩ (h.2 rfl)
theorem kJ {ρ : List (Nat × AV)} {dst : Option Nat} {v : AV} {t : Nat} : aQ (dP ρ dst v) t = if dst = some t then v else aQ ρ t := by
 cases dst with
 | none => simp [dP]
 | some d => simp [dP, aQ]
theorem xx {ops : Array Oper} {ρ ρ' : List (Nat × AV)} {o : Oper} (h : ∀ t ∈ looks ops o, aQ ρ t = aQ ρ' t) : b9 ops ρ o = b9 ops ρ' o := by
 unfold b9
 cases hg : o.guard with
 | none => rfl
 | some jw =>
  obtain ⟨j, want⟩ := jw
  simp only
  cases hd : (ops[j]?).bind (·.dst) with
  | none => rfl
  | some d =>
   simp only
   rw [h d (by simp [looks, hg, hd])]
theorem rZ {ops : Array Oper} {ρ ρ' : List (Nat × AV)} {o : Oper} (h : ∀ t ∈ looks ops o, aQ ρ t = aQ ρ' t) : ∀ x ∈ o.op.operands, ∀ t, aev C ρ t x = aev C ρ' t x := by
 intro x hx t
 refine AP λ i hi => h i ?_
 subst hi
 exact mem_append.2 (.inl (List.mem_filterMap.2 ⟨.tmp i, Array.mem_toList_iff.2 hx, rfl⟩))
structure RegFacts (C : Ctx) (ops : Array Oper) (B : Nat -> List Nat) : Prop where
 dir : ∀ i, i < ops.size -> ∀ d ∈ cV (aO ops i), d < i
 lt : ∀ i, i < ops.size -> ∀ x ∈ B i, x < i
 clo : ∀ i, i < ops.size -> ∀ x ∈ B i, x ∈ cV (aO ops i) ∨ ∃ d ∈ cV (aO ops i), x ∈ B d
 con : ∀ i j, i < ops.size -> j < ops.size -> i ≠ j -> je C ops (aO ops i) (aO ops j) = true -> i ∈ B j ∨ j ∈ B i
 dst : ∀ i j, i < ops.size -> j < ops.size -> i ≠ j -> ∀ d, (aO ops i).dst = some d -> (aO ops j).dst ≠ some d
theorem mc {ops : Array Oper} {cf : Oper -> Oper -> Bool} {B : Nat -> List Nat} (h : (List.range ops.size).all (p7 ops cf B) = true) (hcf : ∀ x y, je C ops x y = true -> cf x y = true) : RegFacts C ops B /\ ∀ i j, i < ops.size -> j < ops.size -> i ≠ j -> cf (aO ops i) (aO ops j) = true -> i ∈ B j ∨ j ∈ B i := by
 have hi : ∀ i, i < ops.size -> p7 ops cf B i = true := λ i hi => all_eq_true.1 h i (mem_range.2 hi)
 have parts : ∀ i, i < ops.size -> ((∀ d ∈ cV (aO ops i), d < i) /\ (∀ x ∈ B i, x < i /\ (x ∈ cV (aO ops i) ∨ ∃ d ∈ cV (aO ops i), x ∈ B d))) /\ ∀ j, j < ops.size -> i ≠ j ->
   (cf (aO ops i) (aO ops j) = true -> i ∈ B j ∨ j ∈ B i) /\ ∀ d, (aO ops i).dst = some d -> (aO ops j).dst ≠ some d := by
  intro i hlt
  have h1 := hi i hlt
  unfold p7 at h1
  simp only [Bool.and_eq_true, all_eq_true, decide_eq_true_eq, Bool.or_eq_true, List.any_eq_true, List.contains_iff_mem] at h1
  refine ⟨⟨h1.1.1, λ x hx => h1.1.2 x hx⟩, λ j hj hne => ?_⟩
  have h2 := (h1.2 j (mem_range.2 hj)).resolve_left (by simpa using hne)
  refine ⟨λ hc => ?_, λ d hd => ?_⟩
  ·rcases h2.1 with (h3 | h3) | h3
   ·simp [hc] at h3
   ·exact .inl h3
   ·exact .inr h3
  ·have h3 := h2.2
   rw [hd] at h3
   simpa using h3
 exact ⟨⟨λ i hi => (parts i hi).1.1, λ i hi x hx => ((parts i hi).1.2 x hx).1, λ i hi x hx => ((parts i hi).1.2 x hx).2, λ i j hi hj hne hc => ((parts i hi).2 j hj hne).1 (hcf _ _ hc), λ i j hi hj hne => ((parts i hi).2 j hj hne).2⟩, λ i j hi hj hne => ((parts i hi).2 j hj hne).1⟩
theorem tm {ops : Array Oper} {x y : Oper} (h : je C ops x y = true) : zA C ops x y = true := by
 unfold je at h
 unfold zA
 rcases Bool.or_eq_true_iff.1 h with h | h
 ·rw [h]; rfl
 ·simp only [Bool.and_eq_true] at h
  have : mW C y = false := by
   have h2 := h.2
   unfold cF at h2
   unfold mW
   cases hk : bT C y <;> simp_all
  simp [h.1, this]
theorem wQ {ops : Array Oper} (h : DQ C ops = true) : ∃ B, RegFacts C ops B /\ ∀ i j, i < ops.size -> j < ops.size -> i ≠ j -> cF C (aO ops i) = true -> mW C (aO ops j) = false -> i ∈ B j ∨ j ∈ B i := by
 obtain ⟨F, h2⟩ := mc h λ _ _ => tm
 exact ⟨_, F, λ i j hi hj hne h3 h4 => h2 i j hi hj hne (by simp [zA, h3, h4])⟩
theorem ud {ops : Array Oper} (h : yu C ops = true) : RegFacts C ops λ i => (xQ ops.toList []).getD i [] := (mc h λ _ _ h => h).1
end
section
variable {C : Ctx} {N : Nat} {X : Nat -> Prop} {w0 : World} {β0 : List BI} {H0 : List Blk} {ops : Array Oper} {B : Nat -> List Nat} {st : ASt} {v : Nat -> AV} {ρ : Nat -> List (Nat × AV)} {H : Nat -> List Blk}
theorem mw (T : Trace C ops 0 st v ρ H) : ∀ i, i <= ops.size -> ∀ t, (∀ j, j < i -> (aO ops j).dst ≠ some t) -> aQ (ρ i) t = aQ (ρ 0) t
 | 0, _, _, _ => rfl
 | i + 1, hi, t, h => by
  obtain ⟨g, _, _, _, h4⟩ := T.step i (zero_le _) hi
  rw [h4, kJ, if_neg (h i (by omega))]
  exact mw T i (by omega) t λ j hj => h j (by omega)
theorem yX (T : Trace C ops 0 st v ρ H) (F : RegFacts C ops B) : ∀ i, i <= ops.size -> ∀ j d, j < i -> (aO ops j).dst = some d -> aQ (ρ i) d = v j
 | 0, _, _, _, h, _ => by omega
 | i + 1, hi, j, d, hj, hd => by
  obtain ⟨g, _, _, _, h4⟩ := T.step i (zero_le _) hi
  rw [h4, kJ]
  by_cases e : j = i
  ·subst e; rw [if_pos hd]
  ·rw [if_neg (λ h => F.dst j i (by omega) (by omega) e d hd h)]
   exact yX T F i (by omega) j d (by omega) hd
theorem sJ (T : Trace C ops 0 st v ρ H) {i : Nat} (hi : i < ops.size) (he : cF C (aO ops i) = false) : H (i + 1) = H i := by
 obtain ⟨g, _, h2, h3, _⟩ := T.step i (zero_le _) hi
 cases g with
 | true =>
  obtain ⟨ob, h2, _⟩ := h2 rfl
  cases hk : bT C (aO ops i) with
  | pure => exact (po hk h2).1
  | read => exact lr hk h2
  | eff => simp [cF, hk] at he
 | false => exact (h3 rfl).2
theorem qI (T : Trace C ops 0 st v ρ H) {k : Nat} : ∀ m, k + m <= ops.size -> (∀ e, k <= e -> e < k + m -> cF C (aO ops e) = false) -> H k = H (k + m)
 | 0, _, _ => rfl
 | m + 1, hm, he => by
  rw [qI T m (by omega) λ e h1 h2 => he e h1 (by omega)]
  exact (sJ T (by omega) (he (k + m) (by omega) (by omega))).symm
theorem uD (T : Trace C ops 0 st v ρ H) {k k' : Nat} (hk : k <= ops.size) (hk' : k' <= ops.size) (h : ∀ e, e < ops.size -> cF C (aO ops e) = true -> (e < k ↔ e < k')) : H k = H k' := by
 rcases Nat.le_total k k' with h1 | h1
 ·have := qI T (k := k) (k' - k) (by omega) λ e e1 e2 => by
   cases hh : cF C (aO ops e) with
   | false => rfl
   | true => have := (h e (by omega) hh).2 (by omega); omega
  rwa [show k + (k' - k) = k' by omega] at this
 ·have := qI T (k := k') (k - k') (by omega) λ e e1 e2 => by
   cases hh : cF C (aO ops e) with
   | false => rfl
   | true => have := (h e (by omega) hh).1 (by omega); omega
  rw [show k' + (k - k') = k by omega] at this
  exact this.symm
structure Inv (C : Ctx) (ops : Array Oper) (B : Nat -> List Nat) (v : Nat -> AV) (ρ : Nat -> List (Nat × AV)) (H : Nat -> List Blk) (L : Nat -> Prop) (ρS : List (Nat × AV)) (HS : List Blk) : Prop where
 clo : ∀ i, i < ops.size -> L i -> ∀ x ∈ B i, L x
 val : ∀ i, i < ops.size -> L i -> ∀ d, (aO ops i).dst = some d -> aQ ρS d = v i
 rest : ∀ t, (∀ i, i < ops.size -> L i -> (aO ops i).dst ≠ some t) -> aQ ρS t = aQ (ρ 0) t
 heap : ∀ k, k <= ops.size -> (∀ i, i < ops.size -> cF C (aO ops i) = true -> (L i ↔ i < k)) -> HS = H k
theorem rI {x y : Oper} (h1 : cF C x = true) (h2 : cF C y = true) : je C ops x y = true := by simp [je, h1, h2]
theorem A8 {x y : Oper} {d : Nat} (h1 : x.dst = some d) (h2 : d ∈ looks ops y) : je C ops x y = true := by simp [je, h1, h2]
theorem behind (F : RegFacts C ops B) {L : Nat -> Prop} (hclo : ∀ i, i < ops.size -> L i -> ∀ x ∈ B i, L x) {i : Nat} (hi : i < ops.size) (hd : ∀ d ∈ cV (aO ops i), L d) : ∀ x ∈ B i, L x := by
 intro x hx
 rcases F.clo i hi x hx with h | ⟨d, h, h'⟩
 ·exact hd x h
 ·exact hclo d (by have := F.dir i hi d h; omega) (hd d h) x h'
theorem Bo (T : Trace C ops 0 st v ρ H) (F : RegFacts C ops B) {L : Nat -> Prop} {ρS : List (Nat × AV)} {HS : List Blk} (I : Inv C ops B v ρ H L ρS HS) {i : Nat} (hi : i < ops.size) (hL : ¬ L i) (hd : ∀ d ∈ cV (aO ops i), L d) :
  ∀ t ∈ looks ops (aO ops i), aQ ρS t = aQ (ρ i) t := by
 have hB := behind F I.clo hi hd
 intro t ht
 by_cases hex : ∃ j, j < ops.size /\ (aO ops j).dst = some t
 ·obtain ⟨j, hj, hdj⟩ := hex
  by_cases e : j = i
  ·subst e
   have h1 : aQ ρS t = aQ (ρ 0) t := I.rest t λ k hk hLk hdk => by
    by_cases e : k = j
    ·subst e; exact hL hLk
    ·exact F.dst j k hj hk (λ h => e h.symm) t hdj hdk
   rw [h1, mw T j (by omega) t λ k hk hdk => F.dst j k hj (by omega) (by omega) t hdj hdk]
  ·rcases F.con j i hj hi e (A8 hdj ht) with h | h
   ·rw [I.val j hj (hB j h) t hdj, yX T F i (by omega) j t (F.lt i hi j h) hdj]
   ·have hij := F.lt j hj i h
    have hnL : ¬ L j := λ h' => hL (I.clo j hj h' i h)
    rw [I.rest t λ k hk hLk hdk => by
     by_cases e' : k = j
     ·subst e'; exact hnL hLk
     ·exact F.dst j k hj hk (λ h => e' h.symm) t hdj hdk]
    rw [mw T i (by omega) t λ k hk hdk => by
     by_cases e' : k = j
     ·omega
     ·exact F.dst j k hj (by omega) (λ h => e' h.symm) t hdj hdk]
 ·rw [I.rest t λ k hk _ hdk => hex ⟨k, hk, hdk⟩, mw T i (by omega) t λ k hk hdk => hex ⟨k, by omega, hdk⟩]
theorem pM (F : RegFacts C ops B) {L : Nat -> Prop} {ρS : List (Nat × AV)} {HS : List Blk} (I : Inv C ops B v ρ H L ρS HS) {i : Nat} (hi : i < ops.size) (hL : ¬ L i) (hd : ∀ d ∈ cV (aO ops i), L d) (hp : cF C (aO ops i) = true) :
  (∀ e, e < ops.size -> cF C (aO ops e) = true -> (L e ↔ e < i)) := by
 have hB := behind F I.clo hi hd
 intro e he hee
 by_cases h : e = i
 ·subst h
  exact ⟨λ h => absurd h hL, λ h => by omega⟩
 ·rcases F.con e i he hi h (rI hee hp) with h1 | h1
  ·exact ⟨λ _ => F.lt i hi e h1, λ _ => hB e h1⟩
  ·have := F.lt e he i h1
   exact ⟨λ h2 => absurd (I.clo e he h2 i h1) hL, λ h2 => by omega⟩
theorem Dq (T : Trace C ops 0 st v ρ H) (F : RegFacts C ops B) {L : Nat -> Prop} {ρS : List (Nat × AV)} {HS : List Blk} (I : Inv C ops B v ρ H L ρS HS) {i : Nat} (hi : i < ops.size) (hL : ¬ L i) (hd : ∀ d ∈ cV (aO ops i), L d)
  {HS' : List Blk} (hH : (cF C (aO ops i) = true -> HS' = H (i + 1)) /\ (cF C (aO ops i) = false -> HS' = HS)) : Inv C ops B v ρ H (λ j => j = i ∨ L j) (dP ρS (aO ops i).dst (v i)) HS' := by
 have hB := behind F I.clo hi hd
 refine ⟨λ j hj hl x hx => ?_, λ j hj hl d hdj => ?_, λ t ht => ?_, λ k hk hsep => ?_⟩
 ·rcases hl with rfl | hl
  ·exact .inr (hB x hx)
  ·exact .inr (I.clo j hj hl x hx)
 ·rw [kJ]
  by_cases e : j = i
  ·subst e; rw [if_pos hdj]
  ·rw [if_neg (λ h => F.dst j i hj hi e d hdj h)]
   exact I.val j hj (hl.resolve_left e) d hdj
 ·rw [kJ, if_neg (ht i hi (.inl rfl))]
  exact I.rest t λ k hk hlk => ht k hk (.inr hlk)
 ·cases he : cF C (aO ops i) with
  | true =>
   rw [hH.1 he]
   have h1 := pM F I hi hL hd he
   have hik := (hsep i hi he).1 (.inl rfl)
   refine uD T hi hk λ e he1 he2 => ?_
   by_cases h : e = i
   ·subst h; exact ⟨λ _ => hik, λ _ => by omega⟩
   ·have h2 := h1 e he1 he2
    have h3 := hsep e he1 he2
    constructor
    ·intro h4; exact h3.1 (.inr (h2.2 (by omega)))
    ·intro h4
     have := h2.1 ((h3.2 h4).resolve_left h)
     omega
  | false =>
   rw [hH.2 he]
   refine I.heap k hk λ e he1 he2 => ?_
   have h3 := hsep e he1 he2
   have hne : e ≠ i := λ h => by subst h; rw [he] at he2; cases he2
   exact ⟨λ h => h3.1 (.inr h), λ h => (h3.2 h).resolve_left hne⟩
theorem CZ (F : RegFacts C ops B) {L : Nat -> Prop} (hclo : ∀ i, i < ops.size -> L i -> ∀ x ∈ B i, L x) : ∀ n, n <= ops.size -> ∃ k, k <= n /\ ∀ e, e < n -> cF C (aO ops e) = true -> (L e ↔ e < k)
 | 0, _ => ⟨0, le_refl _, λ e he => by omega⟩
 | n + 1, hn => by
  obtain ⟨k, hk, h⟩ := CZ F hclo n (by omega)
  by_cases hl : cF C (aO ops n) = true /\ L n
  ·refine ⟨n + 1, le_refl _, λ e he hee => ⟨λ _ => he, λ _ => ?_⟩⟩
   by_cases e1 : e = n
   ·subst e1; exact hl.2
   ·rcases F.con e n (by omega) (by omega) e1 (rI hee hl.1) with h1 | h1
    ·exact hclo n (by omega) hl.2 e h1
    ·have := F.lt e (by omega) n h1; omega
  ·refine ⟨k, by omega, λ e he hee => ?_⟩
   by_cases e1 : e = n
   ·subst e1
    exact ⟨λ h2 => absurd ⟨hee, h2⟩ hl, λ h2 => by omega⟩
   ·exact h e (by omega) hee
def xD (C : Ctx) (ops : Array Oper) (B : Nat -> List Nat) (v : Nat -> AV) (ρ : Nat -> List (Nat × AV)) (H : Nat -> List Blk) : Prop :=
 ∀ i k, i < ops.size -> k <= ops.size -> bT C (aO ops i) = .read -> b9 ops (ρ i) (aO ops i) = some true -> (∀ e, e < ops.size -> cF C (aO ops e) = true -> e ∈ B i -> e < k) -> (∀ e, e < ops.size -> cF C (aO ops e) = true -> i ∈ B e -> k <= e) ->
  ∃ ob, aL C ⟨ρ i, H k⟩ (aO ops i) = some (ob, v i, H k) /\ ob
theorem BY (T : Trace C ops 0 st v ρ H) (F : RegFacts C ops B) (hf : ∀ i j, i < ops.size -> j < ops.size -> i ≠ j -> cF C (aO ops i) = true -> mW C (aO ops j) = false -> i ∈ B j ∨ j ∈ B i) : xD C ops B v ρ H := by
 intro i k hi hk hkd hg h1 h2
 have e : H k = H i := uD T hk (by omega) λ e he hee => by
  have hne : e ≠ i := λ h => by subst h; simp [cF, hkd] at hee
  rcases hf e i he hi hne hee (by simp [mW, hkd]) with h | h
  ·exact ⟨λ _ => F.lt i hi e h, λ _ => h1 e he hee h⟩
  ·have := F.lt e he i h
   have := h2 e he hee h
   exact ⟨λ h => by omega, λ h => by omega⟩
 rw [e]
 obtain ⟨g, hg', hst, _, _⟩ := T.step i (zero_le _) hi
 rw [hg] at hg'; injection hg' with hg'; subst hg'
 obtain ⟨ob, hst, hob⟩ := hst rfl
 have h1 := lr hkd hst
 rw [h1] at hst
 exact ⟨ob, hst, hob⟩
theorem p6 {listed : Array Bool} {i : Nat} (h : i ∈ Region.ready .any ops listed) : i < ops.size /\ listed.getD i true = false /\ ∀ d ∈ cV (aO ops i), listed.getD d false = true := by
 unfold Region.ready at h
 rw [mem_filter] at h
 obtain ⟨h1, h2⟩ := h
 have hi := mem_range.1 h1
 simp only [Bool.and_eq_true, Bool.not_eq_true'] at h2
 refine ⟨hi, h2.1, λ d hd => ?_⟩
 have h3 := h2.2
 rw [Array.getElem?_eq_getElem hi] at h3
 simp only [map_some, getD_some] at h3
 unfold cV aO at hd
 rw [Array.getD_eq_getD_getElem?, Array.getElem?_eq_getElem hi] at hd
 simp only [getD_some, mem_map, mem_filter] at hd
 obtain ⟨e, ⟨he1, he2⟩, rfl⟩ := hd
 have h4 := Array.all_eq_true'.1 h3 e (Array.mem_toList_iff.1 he1)
 simp only [he2, Bool.not_true, Bool.false_or] at h4
 exact h4
theorem BH (F : RegFacts C ops B) {listed : Array Bool} (hs : listed.size = ops.size) (h : Region.ready .any ops listed = []) : ∀ i, i < ops.size -> listed.getD i false = true := by
 intro i
 induction i using Nat.strongRecOn with
 | _ i ih =>
  intro hi
  cases hl : listed.getD i false with
  | true => rfl
  | false =>
   exfalso
   have : i ∈ Region.ready .any ops listed := by
    unfold Region.ready
    rw [mem_filter]
    refine ⟨mem_range.2 hi, ?_⟩
    simp only [Bool.and_eq_true, Bool.not_eq_true']
    refine ⟨?_, ?_⟩
    ·rw [Array.getD_eq_getD_getElem?, Array.getElem?_eq_getElem (by omega)] at hl ⊢
     exact hl
    ·rw [Array.getElem?_eq_getElem hi]
     simp only [map_some, getD_some]
     refine Array.all_eq_true'.2 λ e he => ?_
     cases hb : Region.binds .any e with
     | false => rfl
     | true =>
      have hd : e.on ∈ cV (aO ops i) := by
       unfold cV aO
       rw [Array.getD_eq_getD_getElem?, Array.getElem?_eq_getElem hi]
       simp only [getD_some, mem_map, mem_filter]
       exact ⟨e, ⟨Array.mem_toList_iff.2 he, hb⟩, rfl⟩
      have hlt := F.dir i hi e.on hd
      simp [ih e.on hlt (by omega)]
   rw [h] at this
   cases this
theorem yY {w : World} {Y : Nat -> Prop} {β : List BI} {Hh : List Blk} {a : Act} {ρ1 ρ2 : List (Nat × AV)} (h : ∀ t, aQ ρ1 t = aQ ρ2 t) (T : i8 w Y β Hh a ρ1) : i8 w Y β Hh a ρ2 := λ t => by rw [<- h t]; exact T t
theorem kE (hS : aB C) (hd : ∀ i, i < ops.size -> ∀ d, (aO ops i).dst = some d -> d < N) (T : Trace C ops 0 st v ρ H) (F : RegFacts C ops B) (hstab : xD C ops B v ρ H) {Q : Exit -> Act -> World -> Prop}
  (hQ : ∀ a' w', Rel C N X w0 β0 H0 ⟨ρ ops.size, H ops.size⟩ a' w' -> Q .normal a' w') : ∀ (fuel : Nat) (listed : Array Bool) (ρS : List (Nat × AV)) (HS : List Blk) (a : Act) (w : World), listed.size = ops.size ->
   Inv C ops B v ρ H (λ i => listed.getD i false = true) ρS HS -> (List.range ops.size).countP (λ i => !listed.getD i false) <= fuel -> Rel C N X w0 β0 H0 ⟨ρS, HS⟩ a w -> wpAny C.P .any ops Q fuel listed a w := by
 -- where all has been done
 have done : ∀ (listed : Array Bool) (ρS : List (Nat × AV)) (HS : List Blk) (a : Act) (w : World), Inv C ops B v ρ H (λ i => listed.getD i false = true) ρS HS -> (∀ i, i < ops.size -> listed.getD i false = true) -> Rel C N X w0 β0 H0 ⟨ρS, HS⟩ a w -> Q .normal a w := by
  intro listed ρS HS a w I hall hr
  obtain ⟨β, R, S0, Tr, G, hN, hdef⟩ := hr
  have hH : HS = H ops.size := I.heap ops.size (le_refl _) λ i hi _ => ⟨λ _ => hi, λ _ => hall i hi⟩
  subst hH
  refine hQ a w ⟨β, R, S0, yY (λ t => ?_) Tr, G, hN, hdef⟩
  by_cases hex : ∃ j, j < ops.size /\ (aO ops j).dst = some t
  ·obtain ⟨j, hj, hdj⟩ := hex
   rw [I.val j hj (hall j hj) t hdj, yX T F ops.size (le_refl _) j t hj hdj]
  ·rw [I.rest t λ k hk _ hdk => hex ⟨k, hk, hdk⟩, mw T ops.size (le_refl _) t λ k hk hdk => hex ⟨k, hk, hdk⟩]
 intro fuel
 induction fuel with
 | zero =>
  intro listed ρS HS a w hs I hc hr
  have hall : ∀ i, i < ops.size -> listed.getD i false = true := by
   intro i hi
   have h0 : (List.range ops.size).countP (λ i => !listed.getD i false) = 0 := by omega
   rw [List.countP_eq_zero] at h0
   have := h0 i (mem_range.2 hi)
   simpa using this
  refine ⟨?_, done listed ρS HS a w I hall hr⟩
  cases hrd : Region.ready .any ops listed with
  | nil => rfl
  | cons i r =>
   obtain ⟨h1, h2, _⟩ := p6 (ops := ops) (listed := listed) (i := i) (by rw [hrd]; simp)
   have := hall i h1
   rw [Array.getD_eq_getD_getElem?, Array.getElem?_eq_getElem (by omega), getD_some] at h2 this
   rw [h2] at this
   cases this
 | succ fuel ih =>
  intro listed ρS HS a w hs I hc hr
  refine ⟨λ hnil => done listed ρS HS a w I (BH F hs hnil) hr, λ i hi => ?_⟩
  obtain ⟨hlt, hun, hdir⟩ := p6 hi
  have hL : ¬ (listed.getD i false = true) := by
   rw [Array.getD_eq_getD_getElem?, Array.getElem?_eq_getElem (by omega), getD_some] at hun ⊢
   rw [hun]
   simp
  have hlook := Bo T F I hlt hL hdir
  obtain ⟨β, R, S0, Tr, G, hN, hdef⟩ := hr
  obtain ⟨g, hg, hst, hsk, _⟩ := T.step i (zero_le _) hlt
  have hg' : b9 ops ρS (aO ops i) = some g := by rw [xx hlook]; exact hg
  have hw := kA Tr hg'
  have hget : ops[i]? = some (aO ops i) := by
   unfold aO
   rw [Array.getD_eq_getD_getElem?, Array.getElem?_eq_getElem hlt]
   rfl
  -- on to the next
  have next : ∀ (HS' : List Blk) (a' : Act) (w' : World), ((cF C (aO ops i) = true -> HS' = H (i + 1)) /\ (cF C (aO ops i) = false -> HS' = HS)) -> Rel C N X w0 β0 H0 ⟨dP ρS (aO ops i).dst (v i), HS'⟩ a' w' ->
    wpAny C.P .any ops Q fuel (listed.setIfInBounds i true) a' w' := by
   intro HS' a' w' hH hr'
   have hset : ∀ j, (listed.setIfInBounds i true).getD j false = true ↔ (j = i ∨ listed.getD j false = true) := by
    intro j
    by_cases e : j = i
    ·subst e
     simp [Array.getD_eq_getD_getElem?, show j < listed.size by omega]
    ·simp [Array.getD_eq_getD_getElem?, Array.getElem?_setIfInBounds_ne (λ h => e h.symm), e]
   refine ih _ _ HS' a' w' (by simpa using hs) ?_ ?_ hr'
   ·have := Dq T F I hlt hL hdir hH
    refine ⟨λ j hj hl x hx => (hset x).2 (this.clo j hj ((hset j).1 hl) x hx), λ j hj hl => this.val j hj ((hset j).1 hl), λ t ht => this.rest t λ j hj hl => ht j hj ((hset j).2 hl), λ k hk hsep => this.heap k hk λ j hj he => ?_⟩
    rw [<- hsep j hj he]
    exact (hset j).symm
   ·have key : (List.range ops.size).countP (λ j => !(listed.setIfInBounds i true).getD j false) + 1 <= (List.range ops.size).countP (λ j => !listed.getD j false) := by
     have h1 : ∀ l : List Nat, i ∈ l -> l.countP (λ j => !(listed.setIfInBounds i true).getD j false) + 1 <= l.countP (λ j => !listed.getD j false) := by
      have h0 : ∀ l : List Nat, l.countP (λ j => !(listed.setIfInBounds i true).getD j false) <= l.countP (λ j => !listed.getD j false) := λ l => List.countP_mono_left λ j _ hj => by
       simp only [Bool.not_eq_true', Bool.eq_false_iff] at hj ⊢
       exact λ h => hj ((hset j).2 (.inr h))
      intro l hl
      induction l with
      | nil => cases hl
      | cons j r ihl =>
       rw [List.countP_cons, List.countP_cons]
       by_cases e : j = i
       ·subst e
        have e1 : (!(listed.setIfInBounds j true).getD j false) = false := by rw [(hset j).2 (.inl rfl)]; rfl
        have e2 : (!listed.getD j false) = true := by simpa using hL
        rw [e1, e2]
        have := h0 r
        simp only [if_true, Bool.false_eq_true, if_false]
        omega
       ·have := ihl (by simpa [Ne.symm e] using hl)
        have hj : (!(listed.setIfInBounds i true).getD j false) = !listed.getD j false := by
         have := hset j
         simp only [e, false_or] at this
         cases h1 : (listed.setIfInBounds i true).getD j false <;> cases h2 : listed.getD j false <;> simp_all
        rw [hj]
        omega
     exact h1 _ (mem_range.2 hlt)
    omega
  unfold wpOp
  rw [hget]
  simp only
  rw [hw]
  cases g with
  | true =>
   rw [if_pos rfl]
   obtain ⟨ob, hst, hob⟩ := hst rfl
   have hcg : aL C ⟨ρS, H i⟩ (aO ops i) = some (ob, v i, H (i + 1)) := by rw [nz (rZ hlook)]; exact hst
   refine .inl ?_
   cases hk : bT C (aO ops i) with
   | pure =>
    obtain ⟨h1, h2⟩ := po hk hcg
    exact fV hS R Tr G (h2 HS) hob λ u w' β' R' S hr => next HS _ _ ⟨λ h => by simp [cF, hk] at h, λ _ => rfl⟩ (fR S0 Tr G hN hdef R' S hr _ (hd i hlt))
   | read =>
    obtain ⟨k, hkn, hcut⟩ := CZ F I.clo ops.size (le_refl _)
    have hH : HS = H k := I.heap k hkn hcut
    have hB := behind F I.clo hlt hdir
    obtain ⟨ob, hst', hob⟩ := hstab i k hlt hkn hk hg (λ e he hee h => (hcut e he hee).1 (hB e h)) (λ e he hee h => by
     rcases lt_or_ge e k with h1 | h1
     ·exact absurd (I.clo e he ((hcut e he hee).2 h1) i h) hL
     ·exact h1)
    have hcg : aL C ⟨ρS, HS⟩ (aO ops i) = some (ob, v i, HS) := by rw [hH, nz (rZ hlook)]; exact hst'
    exact fV hS R Tr G hcg hob λ u w' β' R' S hr => next HS _ _ ⟨λ h => by simp [cF, hk] at h, λ _ => rfl⟩ (fR S0 Tr G hN hdef R' S hr _ (hd i hlt))
   | eff =>
    have hH : HS = H i := I.heap i (by omega) (pM F I hlt hL hdir (by simp [cF, hk]))
    rw [<- hH] at hcg
    exact fV hS R Tr G hcg hob λ u w' β' R' S hr => next _ _ _ ⟨λ _ => rfl, λ h => by simp [cF, hk] at h⟩ (fR S0 Tr G hN hdef R' S hr _ (hd i hlt))
  | false =>
   rw [if_neg (by simp)]
   obtain ⟨hv, hHi⟩ := hsk rfl
   refine next HS _ _ ⟨λ h => ?_, λ _ => rfl⟩ ?_
   ·rw [hHi]
    exact I.heap i (by omega) (pM F I hlt hL hdir h)
   ·rw [hv]
    exact fR S0 Tr G hN hdef R (StepR.refl _ _ _ R.len) qd _ (hd i hlt)
end
def cq (C : Ctx) (N : Nat) : Code -> Bool
 | .region _ ops draw => (ops.toList.all λ o => match o.dst with | some d => decide (d < N) | none => true) && (!draw || DQ C ops)
 | .seq a b => cq C N a && cq C N b
 | .cond _ a b => cq C N a && cq C N b
 | .block _ b => cq C N b
 | .loop b => cq C N b
 | .scope b => cq C N b
 | _ => true
def AW (C : Ctx) (N h0 : Nat) (code : Code) (st : ASt) (Q : Exit -> ASt -> Prop) : Prop :=
 ∀ (X : Nat -> Prop) (w0 : World) (β0 : List BI) (H0 : List Blk) (a : Act) (w : World), H0.length = h0 -> Rel C N X w0 β0 H0 st a w -> code.wp C.P (λ ex a' w' => ∃ st', Q ex st' /\ Rel C N X w0 β0 H0 st' a' w') a w
def Weak (C : Ctx) (N h0 : Nat) (st st' : ASt) : Prop :=
 ∀ (X : Nat -> Prop) (w0 : World) (β0 : List BI) (H0 : List Blk) (a : Act) (w : World), H0.length = h0 -> Rel C N X w0 β0 H0 st a w -> Rel C N X w0 β0 H0 st' a w
def avc (C : Ctx) (N h0 : Nat) : Code -> ASt -> (Exit -> ASt -> Prop) -> Prop
 | .skip, st, Q => Q .normal st
 | .region _ ops _, st, Q => eF C ops ops.toList st (Q .normal)
 | .seq a b, st, Q => avc C N h0 a st λ ex st' => match ex with | .normal => avc C N h0 b st' Q | e => Q e st'
 | .cond c a b, st, Q => match aev C st.ρ 0 c with | .bool x => (x = true -> avc C N h0 a st Q) /\ (x = false -> avc C N h0 b st Q) | .anyb => avc C N h0 a st Q /\ avc C N h0 b st Q | _ => False
 | .block id b, st, Q => avc C N h0 b st λ ex st' => match ex with | .exit j => if j = id then Q .normal st' else Q (.exit j) st' | e => Q e st'
 | .exit id, st, Q => Q (.exit id) st
 | .ret, st, Q => Q .ret st
 | .label _, st, Q => Q .normal st
 | .scope b, st, Q => avc C N h0 b st λ ex st' => match ex with | .goto _ => False | e => Q e st'
 | .loop b, st, Q => AW C N h0 (.loop b) st Q
 | _, _, _ => False
section
variable {C : Ctx} {N h0 : Nat}
theorem AW.mono {code : Code} {st : ASt} {Q Q' : Exit -> ASt -> Prop} (h : AW C N h0 code st Q) (hq : ∀ ex st', Q ex st' -> Q' ex st') : AW C N h0 code st Q' :=
 λ X w0 β0 H0 a w hl hr => Code.wp_mono (λ _ _ _ ⟨st', hq', hr'⟩ => ⟨st', hq _ _ hq', hr'⟩) (h X w0 β0 H0 a w hl hr)
theorem Weak.refl (st : ASt) : Weak C N h0 st st := λ _ _ _ _ _ _ _ h => h
theorem Weak.trans {a b c : ASt} (h : Weak C N h0 a b) (h' : Weak C N h0 b c) : Weak C N h0 a c := λ X w0 β0 H0 x w hl hr => h' X w0 β0 H0 x w hl (h X w0 β0 H0 x w hl hr)
theorem AW.weak {code : Code} {st st' : ASt} {Q : Exit -> ASt -> Prop} (hw : Weak C N h0 st st') (h : AW C N h0 code st' Q) : AW C N h0 code st Q :=
 λ X w0 β0 H0 a w hl hr => h X w0 β0 H0 a w hl (hw X w0 β0 H0 a w hl hr)
theorem eu : ∀ (code : Code) {st : ASt} {Q Q' : Exit -> ASt -> Prop}, avc C N h0 code st Q -> (∀ ex st', Q ex st' -> Q' ex st') -> avc C N h0 code st Q'
 | .skip, st, Q, Q', h, hq => hq _ _ h
 | .region _ ops _, st, Q, Q', h, hq => by
  simp only [avc] at h ⊢
  have key : ∀ (l : List Oper) (st : ASt) (K K' : ASt -> Prop), (∀ s, K s -> K' s) -> eF C ops l st K -> eF C ops l st K' := by
   intro l
   induction l with
   | nil => intro st K K' hk h; exact hk st h
   | cons o r ih =>
    intro st K K' hk h
    unfold eF at h ⊢
    split at h
    ·exact h
    ·refine ⟨λ hg => ?_, λ hg => ih _ K K' hk (h.2 hg)⟩
     have h := h.1 hg
     split at h
     ·exact ⟨h.1, ih _ K K' hk h.2⟩
     ·exact h
  exact key _ _ _ _ (λ s => hq .normal s) h
 | .seq a b, st, Q, Q', h, hq => by
  simp only [avc] at h ⊢
  refine eu a h λ ex st' h => ?_
  cases ex <;> first | exact eu b h hq | exact hq _ _ h
 | .cond c a b, st, Q, Q', h, hq => by
  simp only [avc] at h ⊢
  split at h
  ·exact ⟨λ hx => eu a (h.1 hx) hq, λ hx => eu b (h.2 hx) hq⟩
  ·exact ⟨eu a h.1 hq, eu b h.2 hq⟩
  ·exact h
 | .block id b, st, Q, Q', h, hq => by
  simp only [avc] at h ⊢
  refine eu b h λ ex st' h => ?_
  cases ex with
  | exit j =>
   simp only at h ⊢
   split
   ·rename_i e; rw [if_pos e] at h; exact hq _ _ h
   ·rename_i e; rw [if_neg e] at h; exact hq _ _ h
  | _ => exact hq _ _ h
 | .exit id, st, Q, Q', h, hq => hq _ _ h
 | .ret, st, Q, Q', h, hq => hq _ _ h
 | .label _, st, Q, Q', h, hq => hq _ _ h
 | .scope b, st, Q, Q', h, hq => by
  simp only [avc] at h ⊢
  refine eu b h λ ex st' h => ?_
  cases ex <;> first | exact hq _ _ h | exact h
 | .loop b, st, Q, Q', h, hq => AW.mono h hq
 | .goto _, _, _, _, h, _ => h
 | .rangeFunc .., _, _, _, h, _ => h
 | .refuse _, _, _, _, h, _ => h
theorem aY (hS : aB C) (hM : C.P.follows .mixedOrders = true) : ∀ (code : Code) {st : ASt} {Q : Exit -> ASt -> Prop}, cq C N code = true -> avc C N h0 code st Q -> AW C N h0 code st Q
 | .skip, st, Q, _, h => λ X w0 β0 H0 a w hl hr => wp_skip ⟨st, h, hr⟩
 | .region id ops draw, st, Q, hok, h => λ X w0 β0 H0 a w hl hr => by
  simp only [cq, Bool.and_eq_true, Bool.or_eq_true, Bool.not_eq_true'] at hok
  have hd : ∀ o ∈ ops.toList, ∀ d, o.dst = some d -> d < N := by
   intro o ho d hd
   have := all_eq_true.1 hok.1 o ho
   rw [hd] at this
   simpa using this
  simp only [avc] at h
  cases draw with
  | false => exact wp_region_list (dr hS ops.toList hd h hr λ st' a' w' hr' hk => ⟨st', hk, hr'⟩)
  | true =>
   have hok2 := hok.2.resolve_left (by simp)
   obtain ⟨B, F, hfull⟩ := wQ hok2
   obtain ⟨v, ρ, H, T, hK⟩ := pk ops.toList 0 st (Q .normal) (λ j => by simp) (zero_le _) h
   refine wp_region_any hM ?_
   obtain ⟨β, R, S0, Tr, G, hN, hdef⟩ := hr
   have hk : Keeps (λ _ => False) w { w with drawn := w.drawn + 1 } := Keeps.drew _ w
   have hr' : Rel C N X w0 β0 H0 ⟨st.ρ, st.H⟩ a { w with drawn := w.drawn + 1 } :=
    ⟨β, R.quiet hk, S0.trans (StepR.quiet hk R.len), λ t => (Tr t).keep (StepR.quiet hk R.len), λ g => (G g).keep (λ b hb hn => hk.block b hb (λ h => h)) hk.size (λ b _ h => h), hN, hdef⟩
   refine kE hS (λ i hi d hd' => ?_) T F (BY T F hfull) (λ a' w' hr => ⟨_, hK, hr⟩) ops.size (Array.replicate ops.size false) st.ρ st.H a _ (by simp) ?_ (Nat.le_trans List.countP_le_length (by simp)) hr'
   ·refine hd (aO ops i) ?_ d hd'
    unfold aO
    rw [Array.getD_eq_getD_getElem?, Array.getElem?_eq_getElem hi]
    exact Array.mem_toList_iff.2 (Array.getElem_mem hi)
   ·have hno : ∀ i, ¬ ((Array.replicate ops.size false).getD i false = true) := by
     intro i
     rw [Array.getD_eq_getD_getElem?]
     rcases lt_or_ge i ops.size with h | h
     ·simp [h]
     ·simp [Array.getElem?_eq_none (show (Array.replicate ops.size false).size <= i by simpa using h)]
    refine ⟨λ i _ h => absurd h (hno i), λ i _ h => absurd h (hno i), λ t _ => by rw [T.ρ0], λ k hk hsep => ?_⟩
    rw [<- T.H0]
    refine uD T (zero_le _) hk λ e he1 he2 => ⟨λ h => by omega, λ h => absurd ((hsep e he1 he2).2 h) (hno e)⟩
 | .seq x y, st, Q, hok, h => λ X w0 β0 H0 a w hl hr => by
  simp only [cq, Bool.and_eq_true] at hok
  simp only [avc] at h
  refine wp_seq (Code.wp_mono (λ ex a' w' ⟨st', hq, hr'⟩ => ?_) (aY hS hM x hok.1 h X w0 β0 H0 a w hl hr))
  cases ex with
  | normal => exact aY hS hM y hok.2 hq X w0 β0 H0 a' w' hl hr'
  | _ => exact ⟨st', hq, hr'⟩
 | .cond c x y, st, Q, hok, h => λ X w0 β0 H0 a w hl hr => by
  simp only [cq, Bool.and_eq_true] at hok
  simp only [avc] at h
  split at h
  ·rename_i b hb
   have hr0 := hr
   obtain ⟨β, R, S0, Tr, G, hN, hdef⟩ := hr0
   have hE := cY Tr G 0 c
   rw [hb] at hE
   exact wp_cond_split (cR hE) (λ ht => aY hS hM x hok.1 (h.1 ht) X w0 β0 H0 a w hl hr) (λ hf => aY hS hM y hok.2 (h.2 hf) X w0 β0 H0 a w hl hr)
  ·rename_i hb
   have hr0 := hr
   obtain ⟨β, R, S0, Tr, G, hN, hdef⟩ := hr0
   have hE := cY Tr G 0 c
   rw [hb] at hE
   obtain ⟨b, hb'⟩ := mf hE
   exact wp_cond_split hb' (λ _ => aY hS hM x hok.1 h.1 X w0 β0 H0 a w hl hr) (λ _ => aY hS hM y hok.2 h.2 X w0 β0 H0 a w hl hr)
  ·exact h.elim
 | .block id b, st, Q, hok, h => λ X w0 β0 H0 a w hl hr => by
  simp only [cq] at hok
  simp only [avc] at h
  refine wp_block (Code.wp_mono (λ ex a' w' ⟨st', hq, hr'⟩ => ?_) (aY hS hM b hok h X w0 β0 H0 a w hl hr))
  cases ex with
  | exit j =>
   simp only [Exit.inBlock] at hq ⊢
   split
   ·rename_i e; rw [if_pos e] at hq; exact ⟨st', hq, hr'⟩
   ·rename_i e; rw [if_neg e] at hq; exact ⟨st', hq, hr'⟩
  | _ => exact ⟨st', hq, hr'⟩
 | .exit id, st, Q, _, h => λ X w0 β0 H0 a w hl hr => wp_exit ⟨st, h, hr⟩
 | .ret, st, Q, _, h => λ X w0 β0 H0 a w hl hr => wp_ret ⟨st, h, hr⟩
 | .label _, st, Q, _, h => λ X w0 β0 H0 a w hl hr => wp_label ⟨st, h, hr⟩
 | .scope b, st, Q, hok, h => λ X w0 β0 H0 a w hl hr => by
  simp only [cq] at hok
  simp only [avc] at h
  refine wp_scope_straight (Code.wp_mono (λ ex a' w' ⟨st', hq, hr'⟩ => ?_) (aY hS hM b hok h X w0 β0 H0 a w hl hr))
  cases ex with
  | goto l => exact hq
  | _ => exact ⟨st', hq, hr'⟩
 | .loop b, st, Q, _, h => h
 | .goto _, _, _, _, h => h.elim
 | .rangeFunc .., _, _, _, h => h.elim
 | .refuse _, _, _, _, h => h.elim
theorem FI {α : Type} (hS : aB C) (hM : C.P.follows .mixedOrders = true) {body : Code} (hok : cq C N body = true) {st : ASt} {Q : Exit -> ASt -> Prop} (Sf : α -> ASt) (pre : α -> Prop) (m : α -> Nat)
  (start : ∃ x, pre x /\ Weak C N h0 st (Sf x))
  (step : ∀ x, pre x -> avc C N h0 body (Sf x) λ ex st' => match ex with | .normal => ∃ x', pre x' /\ m x' < m x /\ Weak C N h0 st' (Sf x') | e => Q e st') : AW C N h0 (.loop body) st Q := by
 intro X w0 β0 H0 a w hl hr
 obtain ⟨x0, hx0, hw0⟩ := start
 refine wp_loop_ghost (λ n a w => ∃ x, m x = n /\ pre x /\ Rel C N X w0 β0 H0 (Sf x) a w) (m x0) ⟨x0, rfl, hx0, hw0 X w0 β0 H0 a w hl hr⟩ ?_
 rintro n a w ⟨x, rfl, hx, hr⟩
 refine Code.wp_mono (λ ex a' w' ⟨st', hq, hr'⟩ => ?_) (aY hS hM body hok (step x hx) X w0 β0 H0 a w hl hr)
 cases ex with
 | normal =>
  obtain ⟨x', hx', hlt, hw⟩ := hq
  exact ⟨m x', hlt, x', rfl, hx', hw X w0 β0 H0 a' w' hl hr'⟩
 | _ => exact ⟨st', hq, hr'⟩
theorem ar {ρ ρ' : List (Nat × AV)} {H : List Blk} (h : ∀ p ∈ ρ', aQ ρ p.1 = p.2) : Weak C N h0 ⟨ρ, H⟩ ⟨ρ', H⟩ := by
 intro X w0 β0 H0 a w hl hr
 obtain ⟨β, R, S0, Tr, G, hN, hdef⟩ := hr
 refine ⟨β, R, S0, λ t => ?_, G, hN, hdef⟩
 have key : ∀ l : List (Nat × AV), (∀ p ∈ l, aQ ρ p.1 = p.2) -> aQ l t = .undef ∨ aQ l t = aQ ρ t := by
  intro l
  induction l with
  | nil => intro _; exact .inl rfl
  | cons p r ih =>
   intro hp
   obtain ⟨k, v⟩ := p
   simp only [aQ]
   split
   ·rename_i e
    subst e
    exact .inr (hp (k, v) (by simp)).symm
   ·exact ih λ q hq => hp q (mem_cons_of_mem _ hq)
 simp only
 rcases key ρ' h with e | e
 ·rw [e]; exact kM
 ·rw [e]; exact Tr t
@[simp] def AV.clean0 (m : Nat) : AV -> Bool
 | .own l _ => decide (l < m)
 | .osl l _ _ _ _ => decide (l < m)
 | .ptr l _ _ _ _ => decide (l < m)
 | .mapo l => decide (l < m)
 | .agg cs => cs.all AV.isDeep
 | .tup _ => false
 | .fn _ cs => cs.all AV.isDeep
 | _ => true
def AV.clean1 (m : Nat) : AV -> Bool
 | .tup cs => cs.all (AV.clean0 m)
 | v => v.clean0 m
def AV.clean (m : Nat) : AV -> Bool
 | .agg cs => cs.all (AV.clean1 m)
 | .tup cs => cs.all (AV.clean1 m)
 | v => v.clean1 m
theorem MutB.take {β : List BI} {H : List Blk} {m b : Nat} (h : MutB (β.take m) (H.take m) b) : MutB β H b := by
 obtain ⟨l, c, blk, h1, h2, h3⟩ := h
 rw [getElem?_take] at h1 h2
 split at h1
 ·rename_i hl
  rw [if_pos hl] at h2
  exact ⟨l, c, blk, h1, h2, h3⟩
 ·cases h1
theorem Mu.take {X : Nat -> Prop} {β : List BI} {H : List Blk} {m b : Nat} (h : Mu X (β.take m) (H.take m) b) : Mu X β H b := h.imp id MutB.take
theorem qa {w : World} {X : Nat -> Prop} {β : List BI} {H : List Blk} {m : Nat} {v : Value} {av : AV} (hc : av.clean0 m = true) (h : Rep w (Mu X β H) β H v av) : Rep w (Mu X (β.take m) (H.take m)) (β.take m) (H.take m) v av := by
 have hD : ∀ {v : Value} {av : AV}, RepD w (Mu X β H) v av -> RepD w (Mu X (β.take m) (H.take m)) v av := λ h => h.mono λ b _ hb => hb.take
 cases h with
 | deep h => exact .deep (hD h)
 | own l n a cap b hb hn h0 hc' hx =>
  have hl : l < m := by simpa using hc
  refine .own l n a cap b (by rw [getElem?_take, if_pos hl]; exact hb) hn h0 hc' λ e => ?_
  rw [getElem?_take, if_pos hl]
  exact hx e
 | osl l n sz off len a cap b hb hn hle h0 hc' hx =>
  have hl : l < m := by simpa using hc
  refine .osl l n sz off len a cap b (by rw [getElem?_take, if_pos hl]; exact hb) hn hle h0 hc' λ e e2 => ?_
  rw [getElem?_take, if_pos hl]
  exact hx e e2
 | ptr l n sz i f a b hb hn hx =>
  have hl : l < m := by simpa using hc
  refine .ptr l n sz i f a b (by rw [getElem?_take, if_pos hl]; exact hb) hn λ e1 e2 e3 => ?_
  rw [getElem?_take, if_pos hl]
  exact hx e1 e2 e3
 | mapo l bk cap b hb hn hx =>
  have hl : l < m := by simpa using hc
  refine .mapo l bk cap b (by rw [getElem?_take, if_pos hl]; exact hb) hn λ e => ?_
  rw [getElem?_take, if_pos hl]
  exact hx e
 | agg cs cells val hl hm hv => exact .agg cs cells val hl hm λ j u hj => .deep (hD (cL (all_eq_true.1 hc u (mem_of_getElem? hj)) (hv j u hj)))
 | tup cs cells val hl hm hv => cases hc
 | fn f cs cells val hl hm hv => exact .fn f cs cells val hl hm λ j u hj => .deep (hD (cL (all_eq_true.1 hc u (mem_of_getElem? hj)) (hv j u hj)))
theorem fL {w : World} {X : Nat -> Prop} {β : List BI} {H : List Blk} {m : Nat} {v : Value} {av : AV} (hc : av.clean1 m = true) (h : Rep w (Mu X β H) β H v av) : Rep w (Mu X (β.take m) (H.take m)) (β.take m) (H.take m) v av := by
 cases av with
 | tup cells =>
  obtain ⟨cs, val, rfl, hl, hm, hv⟩ := fT h
  exact .tup cs cells val hl hm λ j u hj => qa (all_eq_true.1 hc u (mem_of_getElem? hj)) (hv j u hj)
 | _ => exact qa hc h
theorem sq {w : World} {X : Nat -> Prop} {β : List BI} {H : List Blk} {m : Nat} {v : Value} {av : AV} (hc : av.clean m = true) (h : Rep w (Mu X β H) β H v av) : Rep w (Mu X (β.take m) (H.take m)) (β.take m) (H.take m) v av := by
 cases av with
 | agg cells =>
  obtain ⟨cs, val, rfl, hl, hm, hv⟩ := eB h
  exact .agg cs cells val hl hm λ j u hj => fL (all_eq_true.1 hc u (mem_of_getElem? hj)) (hv j u hj)
 | tup cells =>
  obtain ⟨cs, val, rfl, hl, hm, hv⟩ := fT h
  exact .tup cs cells val hl hm λ j u hj => fL (all_eq_true.1 hc u (mem_of_getElem? hj)) (hv j u hj)
 | _ => exact fL hc h
theorem B7 {ρ : List (Nat × AV)} {H : List Blk} (m : Nat) (hm : h0 <= m) (hρ : ∀ p ∈ ρ, p.2.clean m = true) (hH : ∀ b ∈ H.take m, b.deep = true ∨ ∀ r ∈ b.rows, ∀ c ∈ r, c.clean m = true) : Weak C N h0 ⟨ρ, H⟩ ⟨ρ, H.take m⟩ := by
 intro X w0 β0 H0 a w hl hr
 obtain ⟨β, R, S0, Tr, G, hN, hdef⟩ := hr
 have hcl : ∀ t, (aQ ρ t).clean m = true := by
  intro t
  have key : ∀ l : List (Nat × AV), (∀ p ∈ l, p.2.clean m = true) -> (aQ l t).clean m = true := by
   intro l
   induction l with
   | nil => intro _; rfl
   | cons p r ih =>
    intro hp
    obtain ⟨k, v⟩ := p
    simp only [aQ]
    split
    ·exact hp (k, v) (by simp)
    ·exact ih λ q hq => hp q (mem_cons_of_mem _ hq)
  exact key ρ hρ
 refine ⟨β.take m, ⟨by simp [R.len], λ l bi b h1 h2 => ?_, λ l b c h1 => ?_, λ l l' b c c' h1 h2 => ?_, R.base⟩, ⟨S0.keeps, ⟨λ l b h => ?_, λ l bk c h => ?_⟩, S0.len⟩, λ t => sq (hcl t) (Tr t), λ g => (G g).mono λ b _ hb => hb.take, hN, hdef⟩
 ·rw [getElem?_take] at h1 h2
  split at h1
  ·rename_i hlm
   rw [if_pos hlm] at h2
   have hB := R.blk l bi b h1 h2
   cases bi with
   | nil => exact hB
   | lies bk cap =>
    have hmem : b ∈ H.take m := mem_of_getElem? (by rw [getElem?_take, if_pos hlm]; exact h2)
    rcases hB with ⟨cur, k1, k2, k3, k4, k5, k6, k7⟩ | ⟨hz, hd, es, clock, ents, k1, k2, k3⟩
    ·refine .inl ⟨cur, k1, k2, k3, k4, k5, k6, λ i j r av hr hj => ?_⟩
     obtain ⟨v, q1, q2, q3, q4⟩ := k7 i j r av hr hj
     have q4' : b.deep = true -> RepD w (Mu X (β.take m) (H.take m)) v av := λ hd => (q4 hd).mono λ b _ hb => hb.take
     refine ⟨v, q1, q2, ?_, q4'⟩
     rcases hH b hmem with h | h
     ·exact .deep (q4' h)
     ·exact sq (h r (mem_of_getElem? hr) av (mem_of_getElem? hj)) q3
    ·refine .inr ⟨hz, hd, es, clock, ents, k1, k2, k3.len, k3.max, k3.st, λ i e he => ?_⟩
     obtain ⟨k, v, q1, q2, q3⟩ := k3.ent i e he
     refine ⟨k, v, q1, q2, ?_⟩
     have hcl := ((hH b hmem).resolve_left (by rw [hd]; decide)) ents (by rw [k2]; exact mem_cons_self ..) _ (mem_of_getElem? q1)
     simp only [AV.clean, all_cons, Bool.and_eq_true] at hcl
     exact fL hcl.2.1 q3
  ·cases h1
 ·rw [getElem?_take] at h1
  split at h1
  ·exact R.lt l b c h1
  ·cases h1
 ·rw [getElem?_take] at h1 h2
  split at h1
  ·split at h2
   ·exact R.inj l l' b c c' h1 h2
   ·cases h2
  ·cases h1
 ·obtain ⟨b', e1, e2, e3, e4, e5, e6⟩ := S0.grow.old l b h
  have hlm : l < m := by have := (List.getElem?_eq_some_iff.1 h).1; omega
  refine ⟨b', by simp only [getElem?_take, if_pos hlm]; exact e1, e2, e3, e4, λ e => ?_, e6⟩
  rw [getElem?_take, if_pos hlm]
  exact e5 e
 ·rw [getElem?_take] at h
  split at h
  ·exact S0.grow.at_ l bk c h
  ·cases h
theorem ev {ρ : List (Nat × AV)} {H : List Blk} (t sz : Nat) (e : TypeId) (ht : aQ ρ t = .slice sz true []) (hz : 0 < sz) : Weak C N h0 ⟨ρ, H⟩ ⟨(t, .own H.length 0) :: ρ, H ++ [⟨e, sz, [], true, true⟩]⟩ := by
 intro X w0 β0 H0 a w hl hr
 obtain ⟨β, R, S0, Tr, G, hN, hdef⟩ := hr
 have hk := Keeps.refl (λ _ => False) w
 have S := dL (w' := w) R hk .nil ⟨e, sz, [], true, true⟩ (λ bk c e => by cases e)
 have R' := d9 R hk .nil ⟨e, sz, [], true, true⟩ (λ bk c e => by cases e) (λ bk c e => by cases e) ⟨rfl, hz⟩
 refine ⟨β ++ [.nil], R', S0.trans S, λ k => ?_, λ g => (G g).keep (λ b hb hn => S.keeps.block b hb (λ hm => hn (.inr hm))) S.keeps.size (λ b hb => S.mu b hb), hN, hdef⟩
 simp only [aQ]
 split
 ·rename_i e0
  subst e0
  have h1 := Tr t
  simp only at h1
  rw [ht] at h1
  obtain ⟨a0, cap, val, h2, h3, h4, h5, _⟩ := dC (dO h1)
  rw [h2]
  have hcap := h5 rfl
  simp only [length_nil] at hcap
  refine .own H.length 0 a0 cap ⟨e, sz, [], true, true⟩ (bn H _) ⟨hz, le_refl _⟩ (.inl rfl) (zero_le _) λ _ => ?_
  rw [<- R.len, bn]
  exact ⟨rfl, hcap⟩
 ·exact (Tr k).keep S
theorem gR {ρ : List (Nat × AV)} {H : List Blk} (t : Nat) : Weak C N h0 ⟨ρ, H⟩ ⟨(t, aX H 6 (aQ ρ t)) :: ρ, df (bo H 6 (aQ ρ t)) 0 H⟩ := by
 intro X w0 β0 H0 a w hl hr
 obtain ⟨β, R, S0, Tr, G, hN, hdef⟩ := hr
 have S := lW R (bo H 6 (aQ ρ t))
 refine ⟨β, pH R _, S0.trans S, λ k => ?_, λ g => (G g).keep (λ b hb hn => S.keeps.block b hb (λ hm => hn (.inr hm))) S.keeps.size (λ b hb => S.mu b hb), hN, hdef⟩
 simp only [aQ]
 split
 ·rename_i e
  subst e
  exact .deep ((cw R (λ l => l ∈ bo H 6 (aQ ρ t)) 6 (Tr t) (λ l hl => hl)).mono λ b _ hb => xE hb)
 ·exact (Tr k).keep S
def bq : AV -> AV
 | .agg cs => .agg (cs.map gi)
 | .tup cs => .tup (cs.map λ c => match c with | .agg ds => .agg (ds.map gi) | c => gi c)
 | v => gi v
theorem sn {w : World} {X : Nat -> Prop} {v : Value} {cs : List AV} (h : RepD w X v (.agg cs)) : RepD w X v (.agg (cs.map gi)) := by
 cases h with
 | agg asq _ val hl hm hv =>
  refine .agg asq _ val (by simp [hl]) (λ j hj => hm j (by simpa using hj)) λ j u hj => ?_
  rw [getElem?_map] at hj
  simp only [map_eq_some_iff] at hj
  obtain ⟨c, hc, rfl⟩ := hj
  exact iR (hv j c hc)
theorem dM {w : World} {X : Nat -> Prop} {v : Value} {av : AV} (h : RepD w X v av) : RepD w X v (bq av) := by
 cases av with
 | agg cs => exact sn h
 | tup cs =>
  cases h with
  | tup asq _ val hl hm hv =>
   refine .tup asq _ val (by simp [hl]) (λ j hj => hm j (by simpa using hj)) λ j u hj => ?_
   rw [getElem?_map] at hj
   simp only [map_eq_some_iff] at hj
   obtain ⟨c, hc, rfl⟩ := hj
   have hr := hv j c hc
   cases c with
   | agg ds => exact sn hr
   | _ => exact iR hr
 | _ => exact iR h
def FV (C : Ctx) (st : ASt) : ResultVar -> Option (Prop × AV)
 | .tmp t => some (True, aQ st.ρ t)
 | .cell a t => nr C st.H t (aQ st.ρ a)
def eY (C : Ctx) (st : ASt) : List ResultVar -> Option (Prop × List AV)
 | [] => some (True, [])
 | r :: q => match FV C st r, eY C st q with
  | some (ob, v), some (ob', vs) => some (ob /\ ob', v :: vs)
  | _, _ => none
def bR (C : Ctx) (st : ASt) (rs : List ResultVar) : Option (Prop × AV) :=
 match eY C st rs with
 | some (ob, [v]) => some (ob, v)
 | some (ob, vs) => some (ob, .tup vs)
 | none => none
theorem Br {P : Program} {t : TypeId} {v u : Value} {w : World} (h : (Instr.loadAt t v).run P w = .ok u w) : (do loadVar t (<- asAddr v) : Sem Value).run P w = .ok u w := by
 cases v with
 | pointer a =>
  cases a with
  | none => simp [Instr.loadAt, Instr.sureAddr] at h
  | some ad => simpa [Instr.loadAt, Instr.sureAddr, asAddr] using h
 | _ => simp [Instr.loadAt, Instr.sureAddr] at h
def D0 (tmps : Array Value) : ResultVar -> Sem Value
 | .tmp t => pure (tmps.getD t undef)
 | .cell x t => do loadVar t (<- asAddr (tmps.getD x undef))
theorem yw (fn : Func) (tmps : Array Value) : results fn tmps = (do let vs <- fn.results.mapM (D0 tmps); pure (if h : vs.size = 1 then vs[0] else .tuple vs)) := by
 unfold results
 congr 1
theorem xO {w : World} {X : Nat -> Prop} {β : List BI} {st : ASt} {a : Act} (R : HRel w X β st.H) (T : i8 w (Mu X β st.H) β st.H a st.ρ) {rv : ResultVar} {ob : Prop} {r : AV} (h : FV C st rv = some (ob, r)) (hob : ob) :
  ∃ u, (D0 a.tmps rv).run C.P w = .ok u w /\ Rep w (Mu X β st.H) β st.H u r := by
 cases rv with
 | tmp t =>
  injection h with h; injection h with e1 e2; subst e1 e2
  exact ⟨_, rfl, T t⟩
 | cell x t =>
  obtain ⟨u, h1, h2⟩ := nt R h hob (T x)
  exact ⟨u, Br h1, h2⟩
theorem jN {w : World} {X : Nat -> Prop} {β : List BI} {st : ASt} {a : Act} (R : HRel w X β st.H) (T : i8 w (Mu X β st.H) β st.H a st.ρ) : ∀ (rs : List ResultVar) {ob : Prop} {vs : List AV}, eY C st rs = some (ob, vs) -> ob ->
  ∃ us : List Value, (rs.mapM (D0 a.tmps)).run C.P w = .ok us w /\ us.length = vs.length /\ ∀ (j : Nat) (u : AV), vs[j]? = some u -> ∃ v, us[j]? = some v /\ Rep w (Mu X β st.H) β st.H v u
 | [], ob, vs, h, _ => by
  injection h with h; injection h with e1 e2; subst e1 e2
  exact ⟨[], by simp [List.mapM_nil], rfl, λ j u hj => by simp at hj⟩
 | r :: q, ob, vs, h, hob => by
  unfold eY at h
  split at h
  ·rename_i ob1 v ob2 vs' h1 h2
   injection h with h; injection h with e1 e2; subst e1 e2
   obtain ⟨u, k1, k2⟩ := xO R T h1 hob.1
   obtain ⟨us, k3, k4, k5⟩ := jN R T q h2 hob.2
   refine ⟨u :: us, ?_, by simp [k4], λ j x hj => ?_⟩
   ·rw [List.mapM_cons, Sem.run_bind]
    rw [k1]
    simp only [Result.andThen_ok, Sem.run_bind]
    rw [k3]
    rfl
   ·match j with
    | 0 => simp at hj; subst hj; exact ⟨u, rfl, k2⟩
    | j + 1 => exact k5 j x (by simpa using hj)
  ·cases h
theorem ck {w : World} {X : Nat -> Prop} {β : List BI} {st : ASt} {a : Act} (R : HRel w X β st.H) (T : i8 w (Mu X β st.H) β st.H a st.ρ) {fn : Func} {ob : Prop} {r : AV} (h : bR C st fn.results.toList = some (ob, r)) (hob : ob) :
  ∃ u, (results fn a.tmps).run C.P w = .ok u w /\ Rep w (Mu X β st.H) β st.H u r := by
 unfold bR at h
 have key : ∀ ob vs, eY C st fn.results.toList = some (ob, vs) -> ob -> ∃ us : List Value, (results fn a.tmps).run C.P w = .ok (if h : us.toArray.size = 1 then us.toArray[0] else .tuple us.toArray) w /\ us.length = vs.length /\ ∀ (j : Nat) (u : AV), vs[j]? = some u -> ∃ v, us[j]? = some v /\ Rep w (Mu X β st.H) β st.H v u := by
  intro ob vs hl hob
  obtain ⟨us, h1, h2, h3⟩ := jN R T fn.results.toList hl hob
  refine ⟨us, ?_, h2, h3⟩
  rw [yw, Array.mapM_eq_mapM_toList, map_eq_pure_bind, bind_assoc, Sem.run_bind]
  simp only [pure_bind]
  rw [h1]
  rfl
 split at h
 ·rename_i ob' v hl
  injection h with h; injection h with e1 e2; subst e1 e2
  obtain ⟨us, h1, h2, h3⟩ := key _ _ hl hob
  obtain ⟨u, hu, hr⟩ := h3 0 v rfl
  match us, h2, hu with
  | [x], _, hu =>
   simp at hu
   subst hu
   exact ⟨x, h1, hr⟩
 ·rename_i ob' vs hne hl
  injection h with h; injection h with e1 e2; subst e1 e2
  obtain ⟨us, h1, h2, h3⟩ := key _ _ hl hob
  have hn : us.toArray.size ≠ 1 := by
   intro e
   simp at e
   rw [e] at h2
   obtain ⟨y, rfl⟩ := List.length_eq_one_iff.1 h2.symm
   exact hne y rfl
  rw [dif_neg hn] at h1
  refine ⟨_, h1, .tup us.toArray vs (λ j => us.getD j undef) (by simpa using h2) (λ j hj => ?_) (λ j u hj => ?_)⟩
  ·obtain ⟨v, hv, _⟩ := h3 j _ (getElem?_eq_getElem hj)
   simp [List.getD_eq_getElem?_getD, hv]
  ·obtain ⟨v, hv, hr⟩ := h3 j u hj
   rw [List.getD_eq_getElem?_getD, hv]
   exact hr
 ·cases h
def argsρ : Nat -> List AV -> List (Nat × AV)
 | _, [] => []
 | i, v :: r => (i, v) :: argsρ (i + 1) r
theorem argsρ_get : ∀ (vs : List AV) (i t : Nat), aQ (argsρ i vs) t = if i <= t /\ t < i + vs.length then vs.getD (t - i) .undef else .undef
 | [], i, t => by simp [argsρ, aQ]
 | v :: r, i, t => by
  simp only [argsρ, aQ, argsρ_get r (i + 1) t, List.length_cons]
  by_cases e : i = t
  ·subst e
   rw [if_pos rfl, if_pos (by omega)]
   simp
  ·rw [if_neg e]
   by_cases h : i + 1 <= t /\ t < i + 1 + r.length
   ·rw [if_pos h, if_pos (by omega), show t - i = (t - (i + 1)) + 1 by omega]
    rfl
   ·rw [if_neg h, if_neg (by omega)]
theorem ed {w : World} {Y : Nat -> Prop} {β : List BI} {H : List Blk} {args : Array Value} {avs : List AV} {n : Nat} (hsz : args.size = avs.length) (h : ∀ (j : Nat) (u : AV), avs[j]? = some u -> ∃ v, args[j]? = some v /\ Rep w Y β H v u) :
  i8 w Y β H { tmps := args ++ Array.replicate (n - args.size) undef, defers := [] } (argsρ 0 avs) := by
 intro t
 rw [argsρ_get]
 split
 ·rename_i ht
  have ht' : t < avs.length := by omega
  obtain ⟨v, hv, hr⟩ := h t _ (getElem?_eq_getElem ht')
  simp only [Nat.sub_zero]
  rw [List.getD_eq_getElem?_getD, getElem?_eq_getElem ht', Array.getD_eq_getD_getElem?, Array.getElem?_append_left (by omega), hv]
  exact hr
 ·exact kM
theorem wL (hS : aB C) (hM : C.P.follows .mixedOrders = true) {f : FuncId} {fn : Func} {body : Code} (hf : C.P.funcs[f]? = some fn) (hb : fn.body = some body) (hok : cq C fn.ntmps body = true) {p : List AV -> Option (Prop × AV)}
  (h : ∀ avs ob r, p avs = some (ob, r) -> ob -> avs.length <= fn.ntmps /\ avc C fn.ntmps 0 body ⟨argsρ 0 avs, []⟩ λ ex st' => (ex = .normal ∨ ex = .ret) /\ ∃ ob' r', bR C st' fn.results.toList = some (ob', r') /\ ob' /\ bq (aX st'.H 6 r') = r) : PureOK C.P C.G f p := by
 intro w X args avs ob r hX hG hsz harg hp hob
 obtain ⟨hlen, hav⟩ := h avs ob r hp hob
 refine calls_of_wp hf hb ?_
 have hMu : ∀ b, Mu X [] [] b -> X b := by
  rintro b (h | ⟨l, c, blk, h1, _, _⟩)
  ·exact h
  ·simp at h1
 have R : HRel w X [] [] := ⟨rfl, λ l bi b h1 _ => by simp at h1, λ l b c h1 => by simp at h1, λ l l' b c c' h1 => by simp at h1, hX⟩
 have hr : Rel C fn.ntmps X w [] [] ⟨argsρ 0 avs, []⟩ { tmps := args ++ Array.replicate (fn.ntmps - args.size) undef, defers := [] } w :=
  ⟨[], R, StepR.refl _ _ _ rfl, ed hsz (λ j u hj => let ⟨v, h1, h2⟩ := harg j u hj; ⟨v, h1, .deep (h2.mono λ b _ hb => hMu b hb)⟩), λ g => (hG g).mono λ b _ hb => hMu b hb, by simp; omega, rfl⟩
 refine Code.wp_mono (λ ex a' w' ⟨st', hq, hr'⟩ => ?_) (aY hS hM body hok hav X w [] [] _ w rfl hr)
 obtain ⟨hex, ob', r', hres, hob', hview⟩ := hq
 obtain ⟨β', R', S', T', G', hN', hdef'⟩ := hr'
 obtain ⟨u, hu, hrep⟩ := ck R' T' hres hob'
 have hv := (cw R' (λ _ => True) 6 hrep (λ _ _ => trivial)).mono (X' := X) λ b _ hb => .inl hb
 have hv := dM hv
 rw [hview] at hv
 have hpost : bodyPost C.P fn (λ e w' => ∃ v, e = .returned v /\ Keeps (λ _ => False) w w' /\ RepD w' X v r) .normal a' w' :=
  ⟨hdef', u, hu, u, rfl, S'.keeps.weaken (λ b _ h => by obtain ⟨l, c, blk, h1, _, _⟩ := h; simp at h1), hv⟩
 rcases hex with rfl | rfl
 ·exact hpost
 ·exact hpost
theorem pI (hS : aB C) (hM : C.P.follows .mixedOrders = true) {f : FuncId} {fn : Func} {body : Code} (hf : C.P.funcs[f]? = some fn) (hb : fn.body = some body) (hok : cq C fn.ntmps body = true) {g : List AV -> List Blk -> Option (Prop × AV × List Blk)}
  (h : ∀ avs H ob r H', g avs H = some (ob, r, H') -> ob -> avs.length <= fn.ntmps /\ avc C fn.ntmps H.length body ⟨argsρ 0 avs, H⟩ λ ex st' => (ex = .normal ∨ ex = .ret) /\ ∃ ob' , bR C st' fn.results.toList = some (ob', r) /\ ob' /\ st'.H = H') : bg C.P C.G f g := by
 intro w X β H args avs ob r H' R hG hsz harg hp hob
 obtain ⟨hlen, hav⟩ := h avs H ob r H' hp hob
 refine calls_of_wp hf hb ?_
 have hr : Rel C fn.ntmps X w β H ⟨argsρ 0 avs, H⟩ { tmps := args ++ Array.replicate (fn.ntmps - args.size) undef, defers := [] } w :=
  ⟨β, R, StepR.refl _ _ _ R.len, ed hsz harg, hG, by simp; omega, rfl⟩
 refine Code.wp_mono (λ ex a' w' ⟨st', hq, hr'⟩ => ?_) (aY hS hM body hok hav X w β H _ w rfl hr)
 obtain ⟨hex, ob', hres, hob', hH⟩ := hq
 obtain ⟨β', R', S', T', G', hN', hdef'⟩ := hr'
 obtain ⟨u, hu, hrep⟩ := ck R' T' hres hob'
 subst hH
 have hpost : bodyPost C.P fn (λ e w' => ∃ v β', e = .returned v /\ HRel w' X β' st'.H /\ StepR w β H w' β' st'.H /\ Rep w' (Mu X β' st'.H) β' st'.H v r) .normal a' w' :=
  ⟨hdef', u, hu, u, β', rfl, R', S', hrep⟩
 rcases hex with rfl | rfl
 ·exact hpost
 ·exact hpost
end
class Enc (α : Type) where
 sz : Nat
 cells : α -> List AV
 enc : α -> AV
 unc : List AV -> α
 dec : AV -> α
 unc_cells : ∀ x, unc (cells x) = x
 dec_enc : ∀ x, dec (enc x) = x
instance : Enc Int where
 sz := 1
 cells n := [.int .i64 n]
 enc n := .int .i64 n
 unc l := match l with | [.int _ n] => n | _ => 0
 dec v := match v with | .int _ n => n | _ => 0
 unc_cells _ := rfl
 dec_enc _ := rfl
instance : Enc Bool where
 sz := 1
 cells n := [.bool n]
 enc n := .bool n
 unc l := match l with | [.bool n] => n | _ => false
 dec v := match v with | .bool n => n | _ => false
 unc_cells _ := rfl
 dec_enc _ := rfl
instance : Enc ByteArray where
 sz := 1
 cells n := [.str n]
 enc n := .str n
 unc l := match l with | [.str n] => n | _ => ByteArray.empty
 dec v := match v with | .str n => n | _ => ByteArray.empty
 unc_cells _ := rfl
 dec_enc _ := rfl
instance : Enc UInt8 where
 sz := 1
 cells n := [.int .u8 n.toNat]
 enc n := .int .u8 n.toNat
 unc l := match l with | [.int _ n] => UInt8.ofNat n.toNat | _ => 0
 dec v := match v with | .int _ n => UInt8.ofNat n.toNat | _ => 0
 unc_cells n := by simp
 dec_enc n := by simp
def aq {α : Type} [Enc α] (l : List α) : List (List AV) := l.map Enc.cells
instance {α : Type} [Enc α] : Enc (List α) where
 sz := 1
 cells l := [.slice (Enc.sz α) false (l.map Enc.cells)]
 enc l := .slice (Enc.sz α) false (l.map Enc.cells)
 unc c := match c with | [.slice _ _ rows] => rows.map Enc.unc | _ => []
 dec v := match v with | .slice _ _ rows => rows.map Enc.unc | _ => []
 unc_cells l := by simp [Function.comp_def, Enc.unc_cells]
 dec_enc l := by simp [Function.comp_def, Enc.unc_cells]
def ix {α : Type} [Inhabited α] (l : List α) (i : Nat) : α := l.getD i default
theorem bF {α : Type} [Inhabited α] {l : List α} {i : Nat} (h : i < l.length) : ix l i = l[i] := by simp [ix, h]
theorem bJ {α : Type} [Inhabited α] {l : List α} {i : Nat} (h : i < l.length) : ix l i ∈ l := by rw [bF h]; exact getElem_mem h
section
variable {α : Type} [Enc α]
@[simp] theorem STz0 : Enc.sz Int = 1 := rfl
@[simp] theorem SU : Enc.sz ByteArray = 1 := rfl
@[simp] theorem PK : Enc.sz (List α) = 1 := rfl
@[simp] theorem Mt (n : Int) : Enc.cells n = [.int .i64 n] := rfl
@[simp] theorem Ju (n : Bool) : Enc.cells n = [.bool n] := rfl
@[simp] theorem Mw (n : ByteArray) : Enc.cells n = [.str n] := rfl
@[simp] theorem Jv (l : List α) : Enc.cells l = [.slice (Enc.sz α) false (aq l)] := rfl
@[simp] theorem Px (n : Int) : Enc.enc n = .int .i64 n := rfl
@[simp] theorem NQ (n : Bool) : Enc.enc n = .bool n := rfl
@[simp] theorem Pz (n : ByteArray) : Enc.enc n = .str n := rfl
@[simp] theorem NR (l : List α) : Enc.enc l = .slice (Enc.sz α) false (aq l) := rfl
@[simp] theorem jV (l : List α) : (aq l).length = l.length := by simp [aq]
@[simp] theorem Iv : aq ([] : List α) = [] := rfl
theorem bX (l m : List α) : aq (l ++ m) = aq l ++ aq m := by simp [aq]
@[simp] theorem Gf (x : α) (l : List α) : aq (x :: l) = Enc.cells x :: aq l := rfl
theorem jW (l : List α) (i : Nat) (x : α) : (aq l).set i (Enc.cells x) = aq (l.set i x) := by simp [aq, List.map_set]
theorem aw [Inhabited α] {l : List α} {i : Nat} (h : i < l.length) : dq (aq l) i = Enc.cells (ix l i) := by
 rw [gQ (by simpa using h)]
 simp [aq, ix, h]
theorem tu (l : List α) (i : Nat) : (aq l).take i = aq (l.take i) := by simp [aq, List.map_take]
theorem tt (l : List α) (i : Nat) : (aq l).drop i = aq (l.drop i) := by simp [aq, List.map_drop]
@[simp] theorem NN (sz : Nat) (f : Bool) (l : List α) : (Enc.dec (.slice sz f (aq l)) : List α) = l := by
 show (aq l).map Enc.unc = l
 simp [aq, Function.comp_def, Enc.unc_cells]
@[simp] theorem Po (k : IntKind) (n : Int) : (Enc.dec (.int k n) : Int) = n := rfl
@[simp] theorem NL (n : Bool) : (Enc.dec (.bool n) : Bool) = n := rfl
@[simp] theorem Pq (n : ByteArray) : (Enc.dec (.str n) : ByteArray) = n := rfl
@[simp] theorem Pp (sz : Nat) (f : Bool) : (Enc.dec (.slice sz f []) : List α) = [] := rfl
end
def mX : List (Nat × Entry) -> Nat -> Entry
 | [], _ => .no
 | (k, e) :: r, f => if k = f then e else mX r f
def mkC (P : Program) (G : Nat -> AV) (l : List (Nat × Entry)) : Ctx := ⟨P, mX l, G⟩
theorem ax (P : Program) (G : Nat -> AV) : aB (mkC P G []) := λ _ => trivial
theorem aD {P : Program} {G : Nat -> AV} {l : List (Nat × Entry)} {k : Nat} {e : Entry} (h : dv P G k e) (hl : aB (mkC P G l)) : aB (mkC P G ((k, e) :: l)) := by
 intro f
 show dv P G f (mX ((k, e) :: l) f)
 unfold mX
 split
 ·rename_i h'; subst h'; exact h
 ·exact hl f
theorem gN {P : Program} {G : Nat -> AV} {f : FuncId} {fn : Func} {p : List AV -> Option (Prop × AV)} (h : PureOK P G f p) (hf : P.funcs[f]? = some fn) (hb : fn.body.isSome = true) (hn : fn.name ≠ "runtime.NumGoroutine") : dv P G f (.pure p) := .inl ⟨h, fn, hf, hn, hb⟩
theorem aH {P : Program} {G : Nat -> AV} {f : FuncId} {fn : Func} {p : List AV -> Option (Prop × AV)} {l : List (Nat × Entry)} (h : PureOK P G f p) (hf : P.funcs[f]? = some fn) (r : aB (mkC P G l)) (hb : fn.body.isSome = true := by rfl) (hn : fn.name ≠ "runtime.NumGoroutine" := by decide) : aB (mkC P G ((f, .pure p) :: l)) := aD (gN h hf hb hn) r
theorem vL {P : Program} {G : Nat -> AV} {f : FuncId} {p : List AV -> Option (Prop × AV)} (h : uN P f p) : dv P G f (.pure p) := .inr h
theorem lU {P : Program} {G : Nat -> AV} {f : FuncId} {fn : Func} {p : List AV -> Option (Prop × AV)} (h : PureOK P G f p) (hf : P.funcs[f]? = some fn) (hb : fn.body.isSome = true) (hn : fn.name ≠ "runtime.NumGoroutine") : dv P G f (.frz p) := ⟨h, fn, hf, hn, hb⟩
def vO (C : Ctx) (rs : List ResultVar) (r : AV) (st : ASt) : Prop :=
 match bR C st rs with
 | some (ob, r') => ob /\ bq (aX st.H 6 r') = r
 | none => False
def fY (C : Ctx) (rs : List ResultVar) (r : AV) : Exit -> ASt -> Prop
 | .normal, st => vO C rs r st
 | .ret, st => vO C rs r st
 | _, _ => False
theorem ey {C : Ctx} (hS : aB C) (hM : C.P.follows .mixedOrders = true) {f : FuncId} {fn : Func} {body : Code} {rs : List ResultVar} {n : Nat} (hf : C.P.funcs[f]? = some fn) (hb : fn.body = some body) (hrs : fn.results.toList = rs) (hn : fn.ntmps = n) (hok : cq C n body = true) {p : List AV -> Option (Prop × AV)}
  (h : ∀ avs ob r, p avs = some (ob, r) -> ob -> avs.length <= n /\ avc C n 0 body ⟨argsρ 0 (avs.map bq), []⟩ (fY C rs r)) : PureOK C.P C.G f p := by
 subst hrs hn
 intro w X args avs ob r hX hG hsz harg hp hob
 obtain ⟨hlen, hav⟩ := h avs ob r hp hob
 have := wL (p := λ avs' => some (avs' = avs.map bq, r)) hS hM hf hb hok (λ avs' ob' r' hp' hob' => by
  injection hp' with hp'; injection hp' with e1 e2; subst e1 e2
  subst hob'
  refine ⟨by simpa using hlen, eu body hav λ ex st' hq => ?_⟩
  have fin : vO C fn.results.toList r st' -> ∃ ob' r', bR C st' fn.results.toList = some (ob', r') /\ ob' /\ bq (aX st'.H 6 r') = r := by
   unfold vO
   split
   ·rename_i ob' r' hr; intro h; exact ⟨ob', r', hr, h.1, h.2⟩
   ·intro h; exact h.elim
  cases ex with
  | normal => exact ⟨.inl rfl, fin hq⟩
  | ret => exact ⟨.inr rfl, fin hq⟩
  | _ => exact hq.elim)
 refine this w X args (avs.map bq) _ r hX hG (by simpa using hsz) (λ j u hu => ?_) rfl rfl
 rw [getElem?_map] at hu
 simp only [map_eq_some_iff] at hu
 obtain ⟨av, hav, rfl⟩ := hu
 obtain ⟨v, h1, h2⟩ := harg j av hav
 exact ⟨v, h1, dM h2⟩
def sH (r : AV) : List AV -> Option (Prop × AV)
 | [] => some (True, r)
 | _ => none
def aN {α : Type} [Enc α] (pre : α -> Prop) (res : α -> AV) : List AV -> Option (Prop × AV)
 | [a] => some (bq a = Enc.enc (Enc.dec a : α) /\ pre (Enc.dec a), res (Enc.dec a))
 | _ => none
def aW {α β : Type} [Enc α] [Enc β] (pre : α -> β -> Prop) (res : α -> β -> AV) : List AV -> Option (Prop × AV)
 | [a, b] => some (bq a = Enc.enc (Enc.dec a : α) /\ bq b = Enc.enc (Enc.dec b : β) /\ pre (Enc.dec a) (Enc.dec b), res (Enc.dec a) (Enc.dec b))
 | _ => none
def eV {α β γ : Type} [Enc α] [Enc β] [Enc γ] (pre : α -> β -> γ -> Prop) (res : α -> β -> γ -> AV) : List AV -> Option (Prop × AV)
 | [a, b, c] => some (bq a = Enc.enc (Enc.dec a : α) /\ bq b = Enc.enc (Enc.dec b : β) /\ bq c = Enc.enc (Enc.dec c : γ) /\ pre (Enc.dec a) (Enc.dec b) (Enc.dec c), res (Enc.dec a) (Enc.dec b) (Enc.dec c))
 | _ => none
def xf {α β γ δ : Type} [Enc α] [Enc β] [Enc γ] [Enc δ] (pre : α -> β -> γ -> δ -> Prop) (res : α -> β -> γ -> δ -> AV) : List AV -> Option (Prop × AV)
 | [a, b, c, d] => some (bq a = Enc.enc (Enc.dec a : α) /\ bq b = Enc.enc (Enc.dec b : β) /\ bq c = Enc.enc (Enc.dec c : γ) /\ bq d = Enc.enc (Enc.dec d : δ) /\ pre (Enc.dec a) (Enc.dec b) (Enc.dec c) (Enc.dec d), res (Enc.dec a) (Enc.dec b) (Enc.dec c) (Enc.dec d))
 | _ => none
section
variable {C : Ctx} (hS : aB C) (hM : C.P.follows .mixedOrders = true) {f : FuncId} {fn : Func} {body : Code} {rs : List ResultVar} {n : Nat} (hf : C.P.funcs[f]? = some fn) (hb : fn.body = some body) (hrs : fn.results.toList = rs) (hn : fn.ntmps = n)
include hS hM hf hb hrs hn
theorem OJ (hok : cq C n body = true) {r : AV} (h : avc C n 0 body ⟨[], []⟩ (fY C rs r)) : PureOK C.P C.G f (sH r) :=
 ey hS hM hf hb hrs hn hok λ avs ob r' hp hob => by
  unfold sH at hp
  split at hp
  ·injection hp with hp; injection hp with e1 e2; subst e1 e2
   exact ⟨zero_le _, h⟩
  ·cases hp
theorem ci {α : Type} [Enc α] (hok : cq C n body = true) (hnn : 1 <= n) {pre : α -> Prop} {res : α -> AV} (h : ∀ a, pre a -> avc C n 0 body ⟨[(0, Enc.enc a)], []⟩ (fY C rs (res a))) : PureOK C.P C.G f (aN pre res) :=
 ey hS hM hf hb hrs hn hok λ avs ob r' hp hob => by
  unfold aN at hp
  split at hp
  ·injection hp with hp; injection hp with e1 e2; subst e1 e2
   refine ⟨hnn, ?_⟩
   have := h _ hob.2
   rw [<- hob.1] at this
   exact this
  ·cases hp
theorem db {α β : Type} [Enc α] [Enc β] (hok : cq C n body = true) (hnn : 2 <= n) {pre : α -> β -> Prop} {res : α -> β -> AV} (h : ∀ a b, pre a b -> avc C n 0 body ⟨[(0, Enc.enc a), (1, Enc.enc b)], []⟩ (fY C rs (res a b))) : PureOK C.P C.G f (aW pre res) :=
 ey hS hM hf hb hrs hn hok λ avs ob r' hp hob => by
  unfold aW at hp
  split at hp
  ·injection hp with hp; injection hp with e1 e2; subst e1 e2
   refine ⟨hnn, ?_⟩
   have := h _ _ hob.2.2
   rw [<- hob.1, <- hob.2.1] at this
   exact this
  ·cases hp
theorem wJ {α β γ : Type} [Enc α] [Enc β] [Enc γ] (hok : cq C n body = true) (hnn : 3 <= n) {pre : α -> β -> γ -> Prop} {res : α -> β -> γ -> AV} (h : ∀ a b c, pre a b c -> avc C n 0 body ⟨[(0, Enc.enc a), (1, Enc.enc b), (2, Enc.enc c)], []⟩ (fY C rs (res a b c))) : PureOK C.P C.G f (eV pre res) :=
 ey hS hM hf hb hrs hn hok λ avs ob r' hp hob => by
  unfold eV at hp
  split at hp
  ·injection hp with hp; injection hp with e1 e2; subst e1 e2
   refine ⟨hnn, ?_⟩
   have := h _ _ _ hob.2.2.2
   rw [<- hob.1, <- hob.2.1, <- hob.2.2.1] at this
   exact this
  ·cases hp
theorem OK {α β γ δ : Type} [Enc α] [Enc β] [Enc γ] [Enc δ] (hok : cq C n body = true) (hnn : 4 <= n) {pre : α -> β -> γ -> δ -> Prop} {res : α -> β -> γ -> δ -> AV} (h : ∀ a b c d, pre a b c d -> avc C n 0 body ⟨[(0, Enc.enc a), (1, Enc.enc b), (2, Enc.enc c), (3, Enc.enc d)], []⟩ (fY C rs (res a b c d))) : PureOK C.P C.G f (xf pre res) :=
 ey hS hM hf hb hrs hn hok λ avs ob r' hp hob => by
  unfold xf at hp
  split at hp
  ·injection hp with hp; injection hp with e1 e2; subst e1 e2
   refine ⟨hnn, ?_⟩
   have := h _ _ _ _ hob.2.2.2.2
   rw [<- hob.1, <- hob.2.1, <- hob.2.2.1, <- hob.2.2.2.1] at this
   exact this
  ·cases hp
end
def eH {α : Sort _} (x : α) : α := x
@[simp] theorem bK {α : Sort _} (x : α) : eH x = x := by rw [eH]
@[congr] theorem Mq {C : Ctx} {N h0 : Nat} {code : Code} {st st' : ASt} {Q : Exit -> ASt -> Prop} (h : eH st = st') : avc C N h0 code st Q = avc C N h0 code st' Q := by rw [bK] at h; rw [h]
@[congr] theorem Jd {C : Ctx} {ops : Array Oper} {l : List Oper} {st st' : ASt} {K : ASt -> Prop} (h : eH st = st') : eF C ops l st K = eF C ops l st' K := by rw [bK] at h; rw [h]
@[congr] theorem M4 {C : Ctx} {N h0 : Nat} {code : Code} {st st' : ASt} {Q : Exit -> ASt -> Prop} (h : eH st = st') : AW C N h0 code st Q = AW C N h0 code st' Q := by rw [bK] at h; rw [h]
@[congr] theorem Ki {C : Ctx} {st st' : ASt} {o : Oper} (h : eH st = st') : aL C st o = aL C st' o := by rw [bK] at h; rw [h]
@[congr] theorem Kn {ops : Array Oper} {ρ ρ' : List (Nat × AV)} {o : Oper} (h : eH ρ = ρ') : b9 ops ρ o = b9 ops ρ' o := by rw [bK] at h; rw [h]
def lT : List Oper -> Nat -> Option Tmp
 | [], _ => none
 | o :: _, 0 => o.dst
 | _ :: r, j + 1 => lT r j
@[congr] theorem It {l : List Oper} {j j' : Nat} (h : eH j = j') : lT l j = lT l j' := by rw [bK] at h; rw [h]
@[simp] theorem JK (d : Option Tmp) (op : Op) (ty : TypeId) (p : String) (af : Array Edge) (g : Option (Nat × Bool)) (r : List Oper) : lT (⟨d, op, ty, p, af, g⟩ :: r) 0 = d := rfl
@[simp] theorem JJ (o : Oper) (r : List Oper) (j : Nat) : lT (o :: r) (j + 1) = lT r j := rfl
theorem vH : ∀ (l : List Oper) (j : Nat), lT l j = (l[j]?).bind (·.dst)
 | [], _ => rfl
 | _ :: _, 0 => rfl
 | _ :: r, j + 1 => by rw [lT, vH r j, List.getElem?_cons_succ]
def iu (o : Option (Prop × AV × List Blk)) (K : Prop -> AV -> List Blk -> Prop) : Prop :=
 match o with
 | some (ob, v, H) => K ob v H
 | none => False
@[congr] theorem IZ {o o' : Option (Prop × AV × List Blk)} {K : Prop -> AV -> List Blk -> Prop} (h : eH o = o') : iu o K = iu o' K := by rw [bK] at h; rw [h]
@[simp] theorem LN (ob : Prop) (v : AV) (H : List Blk) (K : Prop -> AV -> List Blk -> Prop) : iu (some (ob, v, H)) K = K ob v H := rfl
def lh (o : Option Bool) (K : Bool -> Prop) : Prop :=
 match o with
 | some g => K g
 | none => False
@[congr] theorem I0 {o o' : Option Bool} {K : Bool -> Prop} (h : eH o = o') : lh o K = lh o' K := by rw [bK] at h; rw [h]
@[simp] theorem jx (g : Bool) (K : Bool -> Prop) : lh (some g) K = K g := rfl
def iz (g : Bool) (A B : Prop) : Prop := (g = true -> A) /\ (g = false -> B)
@[congr] theorem Js {g g' : Bool} {A B : Prop} (h : eH g = g') : iz g A B = iz g' A B := by rw [bK] at h; rw [h]
@[simp] theorem mL (A B : Prop) : iz true A B = A := by simp [iz]
@[simp] theorem lv (A B : Prop) : iz false A B = B := by simp [iz]
def eJ (v : AV) (K : Bool -> Prop) : Prop :=
 match v with
 | .bool x => K x
 | .anyb => K true /\ K false
 | _ => False
@[congr] theorem GN {v v' : AV} {K : Bool -> Prop} (h : eH v = v') : eJ v K = eJ v' K := by rw [bK] at h; rw [h]
@[simp] theorem IQ (x : Bool) (K : Bool -> Prop) : eJ (.bool x) K = K x := rfl
@[simp] theorem IP (K : Bool -> Prop) : eJ .anyb K = (K true /\ K false) := rfl
section
variable {C : Ctx} {N h0 : Nat}
@[simp] theorem Nd (ops : Array Oper) (st : ASt) (K : ASt -> Prop) : eF C ops [] st K = K st := rfl
@[simp] theorem Mh (ops : Array Oper) (o : Oper) (r : List Oper) (st : ASt) (K : ASt -> Prop) : eF C ops (o :: r) st K =
  lh (b9 ops st.ρ o) λ g => iz g (iu (aL C st o) λ ob v H' => ob /\ eF C ops r ⟨dP st.ρ o.dst v, H'⟩ K) (eF C ops r ⟨dP st.ρ o.dst (.tup []), st.H⟩ K) := by
 rw [eF]
 cases b9 ops st.ρ o with
 | none => rfl
 | some g =>
  simp only [jx, iz]
  cases aL C st o with
  | none => rfl
  | some x => rfl
def rf (K : ASt -> Prop) (Q : Exit -> ASt -> Prop) (ex : Exit) (st : ASt) : Prop := match ex with | .normal => K st | e => Q e st
@[congr] theorem MI {K : ASt -> Prop} {Q : Exit -> ASt -> Prop} {ex ex' : Exit} {st st' : ASt} (h : eH ex = ex') (h' : st = st') : rf K Q ex st = rf K Q ex' st' := by rw [bK] at h; rw [h, h']
@[simp] theorem IA (K : ASt -> Prop) (Q : Exit -> ASt -> Prop) (st : ASt) : rf K Q .normal st = K st := rfl
@[simp] theorem N5 (K : ASt -> Prop) (Q : Exit -> ASt -> Prop) (st : ASt) : rf K Q .ret st = Q .ret st := rfl
@[simp] theorem MD (K : ASt -> Prop) (Q : Exit -> ASt -> Prop) (st : ASt) (i : Nat) : rf K Q (.exit i) st = Q (.exit i) st := rfl
def iQ (id : Nat) (Q : Exit -> ASt -> Prop) (ex : Exit) (st : ASt) : Prop := match ex with | .exit j => if j = id then Q .normal st else Q (.exit j) st | e => Q e st
@[congr] theorem Kj {id : Nat} {Q : Exit -> ASt -> Prop} {ex ex' : Exit} {st st' : ASt} (h : eH ex = ex') (h' : st = st') : iQ id Q ex st = iQ id Q ex' st' := by rw [bK] at h; rw [h, h']
@[simp] theorem GO (id : Nat) (Q : Exit -> ASt -> Prop) (st : ASt) : iQ id Q .normal st = Q .normal st := rfl
@[simp] theorem MP (id : Nat) (Q : Exit -> ASt -> Prop) (st : ASt) : iQ id Q .ret st = Q .ret st := rfl
@[simp] theorem KH (id : Nat) (Q : Exit -> ASt -> Prop) (st : ASt) (i : Nat) : iQ id Q (.exit i) st = if i = id then Q .normal st else Q (.exit i) st := rfl
def oq (Q : Exit -> ASt -> Prop) (ex : Exit) (st : ASt) : Prop := match ex with | .goto _ => False | e => Q e st
@[congr] theorem Gw {Q : Exit -> ASt -> Prop} {ex ex' : Exit} {st st' : ASt} (h : eH ex = ex') (h' : st = st') : oq Q ex st = oq Q ex' st' := by rw [bK] at h; rw [h, h']
@[simp] theorem Nm (st : ASt) (Q : Exit -> ASt -> Prop) : avc C N h0 .skip st Q = Q .normal st := rfl
@[simp] theorem Jp (id : Nat) (l : List Oper) (d : Bool) (st : ASt) (Q : Exit -> ASt -> Prop) : avc C N h0 (.region id l.toArray d) st Q = eF C l.toArray l st (Q .normal) := rfl
@[simp] theorem Pi (a b : Code) (st : ASt) (Q : Exit -> ASt -> Prop) : avc C N h0 (.seq a b) st Q = avc C N h0 a st (rf (λ st' => avc C N h0 b st' Q) Q) := rfl
@[simp] theorem Nj (c : Operand) (a b : Code) (st : ASt) (Q : Exit -> ASt -> Prop) : avc C N h0 (.cond c a b) st Q = eJ (aev C st.ρ 0 c) λ x => iz x (avc C N h0 a st Q) (avc C N h0 b st Q) := by
 show (match aev C st.ρ 0 c with | .bool x => (x = true -> avc C N h0 a st Q) /\ (x = false -> avc C N h0 b st Q) | .anyb => avc C N h0 a st Q /\ avc C N h0 b st Q | _ => False) = _
 cases aev C st.ρ 0 c <;> first | rfl | simp [eJ]
@[simp] theorem Mp (id : Nat) (b : Code) (st : ASt) (Q : Exit -> ASt -> Prop) : avc C N h0 (.block id b) st Q = avc C N h0 b st (iQ id Q) := rfl
@[simp] theorem Nk (id : Nat) (st : ASt) (Q : Exit -> ASt -> Prop) : avc C N h0 (.exit id) st Q = Q (.exit id) st := rfl
@[simp] theorem Ph (st : ASt) (Q : Exit -> ASt -> Prop) : avc C N h0 .ret st Q = Q .ret st := rfl
@[simp] theorem Nl (b : Code) (st : ASt) (Q : Exit -> ASt -> Prop) : avc C N h0 (.loop b) st Q = AW C N h0 (.loop b) st Q := rfl
@[congr] theorem Kk {rs : List ResultVar} {r : AV} {ex ex' : Exit} {st st' : ASt} (h : eH ex = ex') (h' : st = st') : fY C rs r ex st = fY C rs r ex' st' := by rw [bK] at h; rw [h, h']
@[simp] theorem MR (rs : List ResultVar) (r : AV) (st : ASt) : fY C rs r .ret st = vO C rs r st := rfl
def round {α : Type} (Sf : α -> ASt) (pre : α -> Prop) (lt : α -> Prop) (N h0 : Nat) (C : Ctx) (Q : Exit -> ASt -> Prop) (ex : Exit) (st' : ASt) : Prop :=
 match ex with | .normal => ∃ x', pre x' /\ lt x' /\ Weak C N h0 st' (Sf x') | e => Q e st'
@[congr] theorem Km {α : Type} {Sf : α -> ASt} {pre lt : α -> Prop} {Q : Exit -> ASt -> Prop} {ex ex' : Exit} {st st' : ASt} (h : eH ex = ex') (h' : st = st') : round Sf pre lt N h0 C Q ex st = round Sf pre lt N h0 C Q ex' st' := by rw [bK] at h; rw [h, h']
@[simp] theorem G4 {α : Type} (Sf : α -> ASt) (pre : α -> Prop) (lt : α -> Prop) (Q : Exit -> ASt -> Prop) (st' : ASt) : round Sf pre lt N h0 C Q .normal st' = ∃ x', pre x' /\ lt x' /\ Weak C N h0 st' (Sf x') := rfl
@[simp] theorem M0 {α : Type} (Sf : α -> ASt) (pre : α -> Prop) (lt : α -> Prop) (Q : Exit -> ASt -> Prop) (st' : ASt) : round Sf pre lt N h0 C Q .ret st' = Q .ret st' := rfl
@[simp] theorem KT {α : Type} (Sf : α -> ASt) (pre : α -> Prop) (lt : α -> Prop) (Q : Exit -> ASt -> Prop) (st' : ASt) (i : Nat) : round Sf pre lt N h0 C Q (.exit i) st' = Q (.exit i) st' := rfl
theorem aT {α : Type} (hS : aB C) (hM : C.P.follows .mixedOrders = true) {body : Code} {st : ASt} {Q : Exit -> ASt -> Prop} (Sf : α -> ASt) (pre : α -> Prop) (m : α -> Nat) (hok : cq C N body = true)
  (start : ∃ x, pre x /\ Weak C N h0 st (Sf x)) (step : ∀ x, pre x -> avc C N h0 body (Sf x) (round Sf pre (λ x' => m x' < m x) N h0 C Q)) : AW C N h0 (.loop body) st Q :=
 FI hS hM hok Sf pre m start λ x hx => eu body (step x hx) λ ex st' h => by cases ex <;> exact h
@[simp] theorem MC (k : Nat) (v : AV) (r : List (Nat × AV)) (i : Nat) : aQ ((k, v) :: r) i = if k = i then v else aQ r i := rfl
@[simp] theorem N4 (i : Nat) : aQ [] i = .undef := rfl
@[simp] theorem MU (ρ : List (Nat × AV)) (d : Nat) (v : AV) : dP ρ (some d) v = (d, v) :: ρ := rfl
@[simp] theorem MT (ρ : List (Nat × AV)) (v : AV) : dP ρ none v = ρ := rfl
@[simp] theorem FR (ρ : List (Nat × AV)) (t i : Nat) : aev C ρ t (.tmp i) = aQ ρ i := rfl
@[simp] theorem lP (ρ : List (Nat × AV)) (t f : Nat) : aev C ρ t (.func f) = .fn f [] := rfl
@[simp] theorem L9 (ops : Array Oper) (ρ : List (Nat × AV)) (dst : Option Tmp) (op : Op) (ty : TypeId) (pos : String) (after : Array Edge) : b9 ops ρ ⟨dst, op, ty, pos, after, none⟩ = some true := rfl
def tG (v : AV) (want : Bool) : Option Bool := match v with | .bool b => some (b == want) | .tup [] => some false | _ => none
@[simp] theorem IC (b want : Bool) : tG (.bool b) want = some (b == want) := rfl
@[simp] theorem ID (want : Bool) : tG (.tup []) want = some false := rfl
def x8 (ρ : List (Nat × AV)) (o : Option Tmp) (want : Bool) : Option Bool := match o with | some d => tG (aQ ρ d) want | none => none
@[simp] theorem IB (ρ : List (Nat × AV)) (d : Tmp) (want : Bool) : x8 ρ (some d) want = tG (aQ ρ d) want := rfl
@[simp] theorem Ma (l : List Oper) (ρ : List (Nat × AV)) (dst : Option Tmp) (op : Op) (ty : TypeId) (pos : String) (after : Array Edge) (j : Nat) (want : Bool) : b9 l.toArray ρ ⟨dst, op, ty, pos, after, some (j, want)⟩ = x8 ρ (lT l j) want := by
 unfold b9 x8
 simp only [List.getElem?_toArray, vH]
 cases (l[j]?).bind (·.dst) with
 | none => rfl
 | some d =>
  simp only
  cases aQ ρ d with
  | tup vs => cases vs <;> rfl
  | _ => rfl
def gC (H : List Blk) (o : Option (Prop × AV)) : Option (Prop × AV × List Blk) := match o with | some (ob, v) => some (ob, v, H) | none => none
@[simp] theorem MK (H : List Blk) (ob : Prop) (v : AV) : gC H (some (ob, v)) = some (ob, v, H) := rfl
variable (ρ : List (Nat × AV)) (H : List Blk) (d : Option Tmp) (ty : TypeId) (p : String) (af : Array Edge) (g : Option (Nat × Bool))
@[simp] theorem Jj (x : Operand) : aL C ⟨ρ, H⟩ ⟨d, .move x, ty, p, af, g⟩ = some (True, aev C ρ ty x, H) := rfl
@[simp] theorem FX (x : Operand) : aL C ⟨ρ, H⟩ ⟨d, .assign x, ty, p, af, g⟩ = some (True, aev C ρ ty x, H) := rfl
@[simp] theorem Jk (c a b : Operand) : aL C ⟨ρ, H⟩ ⟨d, .pick c a b, ty, p, af, g⟩ = gC H (pm (aev C ρ 0 c) (aev C ρ ty a) (aev C ρ ty b)) := rfl
@[simp] theorem Kg (i : Nat) : ke (.tmp i) = false := rfl
@[simp] theorem Kc (k : IntKind) (n : Int) : ke (.const (.int k n)) = false := rfl
@[simp] theorem Kf (s : ByteArray) : ke (.const (.string s)) = false := rfl
@[simp] theorem Ke : ke (.const (.slice none 0 0)) = true := rfl
@[simp] theorem Id (op : BinOp) (t : TypeId) (x y : Operand) (t' : TypeId) : aL C ⟨ρ, H⟩ ⟨d, .binOp op t x y t', ty, p, af, g⟩ = gC H (if ke y then oV C op t (aev C ρ t x) else xG C op t (aev C ρ t x) (aev C ρ t' y)) := rfl
@[simp] theorem Jl (op : UnOp) (t : TypeId) (x : Operand) : aL C ⟨ρ, H⟩ ⟨d, .unOp op t x, ty, p, af, g⟩ = gC H (aun op (aev C ρ ty x)) := rfl
@[simp] theorem Fx (s t : TypeId) (x : Operand) : aL C ⟨ρ, H⟩ ⟨d, .convert s t x, ty, p, af, g⟩ = match elT C.P s with | some _ => gC H (fC C H s t (aev C ρ s x)) | none => gC H (oZ C s t (aev C ρ s x)) := by
 unfold aL bT
 simp only
 cases elT C.P s <;> rfl
@[simp] theorem Ih (t : TypeId) (x : Operand) (k : Nat) : aL C ⟨ρ, H⟩ ⟨d, .field t x k, ty, p, af, g⟩ = gC H (lj C t (aev C ρ t x) k) := rfl
@[simp] theorem Cb (t : TypeId) (x : Operand) (k : Nat) : aL C ⟨ρ, H⟩ ⟨d, .fieldAddr t x k, ty, p, af, g⟩ = gC H (eD C t (aev C ρ 0 x) k) := rfl
@[simp] theorem Cc (t : TypeId) (x i : Operand) : aL C ⟨ρ, H⟩ ⟨d, .indexAddr t x i, ty, p, af, g⟩ = gC H (eE C t (aev C ρ t x) (aev C ρ 0 i)) := rfl
@[simp] theorem Ii (t : TypeId) (x i : Operand) : aL C ⟨ρ, H⟩ ⟨d, .index t x i, ty, p, af, g⟩ = gC H (lk C t (aev C ρ t x) (aev C ρ 0 i)) := rfl
@[simp] theorem Ij (t : TypeId) (x : Operand) (l h m : Option Operand) : aL C ⟨ρ, H⟩ ⟨d, .slice t x l h m, ty, p, af, g⟩ = gC H (lq C t (aev C ρ t x) (l.map (aev C ρ 0)) (h.map (aev C ρ 0)) (m.map (aev C ρ 0))) := rfl
def uY (v : AV) (k : Nat) : Option (Prop × AV) := match v with | .tup vs => (match vs[k]? with | some v => some (True, v) | none => none) | _ => none
@[simp] theorem FsQ (vs : List AV) (k : Nat) : uY (.tup vs) k = match vs[k]? with | some v => some (True, v) | none => none := rfl
@[simp] theorem Fy (x : Operand) (k : Nat) : aL C ⟨ρ, H⟩ ⟨d, .extract x k, ty, p, af, g⟩ = gC H (uY (aev C ρ 0 x) k) := rfl
@[simp] theorem CB (f : FuncId) (first cap : Array Operand) : aL C ⟨ρ, H⟩ ⟨d, .makeFunc (.func f) first cap, ty, p, af, g⟩ = gC H (if f < 1000000 then (if first.size = 0 then some (True, .fn f (cap.toList.map (aev C ρ 0))) else if cap.size = 0 then some (True, .fn (f + 1000000) (first.toList.map (aev C ρ 0))) else none) else none) := rfl
def Jc (v : AV) : Option (Prop × AV) := match v with | .ptr l n sz i f => some (True, .ptr l n sz i f) | .iptr cs => some (True, .iptr cs) | .fn f cap => some (True, .fn f cap) | _ => none
@[simp] theorem Nb (l n sz i f : Nat) : Jc (.ptr l n sz i f) = some (True, .ptr l n sz i f) := rfl
@[simp] theorem CC (x : Operand) : aL C ⟨ρ, H⟩ ⟨d, .nilCheck x, ty, p, af, g⟩ = gC H (Jc (aev C ρ 0 x)) := by
 unfold aL bT k8 Jc
 simp only
 cases aev C ρ 0 x <;> rfl
@[simp] theorem FZ (t : TypeId) (m x : Operand) (ok : Bool) : aL C ⟨ρ, H⟩ ⟨d, .lookup t m x ok, ty, p, af, g⟩ = gC H (ac C H t (aev C ρ t m) (aev C ρ 0 x) ok) := rfl
@[simp] theorem Ie (t : TypeId) (ps : Array (Nat × Operand)) : aL C ⟨ρ, H⟩ ⟨d, .build t ps, ty, p, af, g⟩ = gC H (iy C ρ t ps.toList) := rfl
@[simp] theorem Ji (t : TypeId) (x : Operand) : aL C ⟨ρ, H⟩ ⟨d, .load t x, ty, p, af, g⟩ = gC H (nr C H t (aev C ρ 0 x)) := rfl
@[simp] theorem Ic (t : TypeId) : aL C ⟨ρ, H⟩ ⟨d, .alloc t, ty, p, af, g⟩ = pi C H t (zT C.P t) := rfl
@[simp] theorem Mi (t : TypeId) (x : Operand) : aL C ⟨ρ, H⟩ ⟨d, .box t x, ty, p, af, g⟩ = pi C H t (fP C t (aev C ρ t x)) := rfl
@[simp] theorem Ik (t : TypeId) (x y : Operand) : aL C ⟨ρ, H⟩ ⟨d, .store t x y, ty, p, af, g⟩ = lu C H t (aev C ρ 0 x) (aev C ρ t y) := rfl
@[simp] theorem Cd (t : TypeId) (x y : Operand) : aL C ⟨ρ, H⟩ ⟨d, .makeSlice t x y, ty, p, af, g⟩ = pf C H t (aev C ρ 0 x) (aev C ρ 0 y) := rfl
@[simp] theorem Fz (t : TypeId) : aL C ⟨ρ, H⟩ ⟨d, .makeMap t none, ty, p, af, g⟩ = aa C H t := rfl
@[simp] theorem Ce (t : TypeId) (m x y : Operand) : aL C ⟨ρ, H⟩ ⟨d, .mapUpdate t m x y, ty, p, af, g⟩ = am C H t (aev C ρ 0 m) (aev C ρ 0 x) (aev C ρ 0 y) := rfl
@[simp] theorem FY (m x : Operand) (t t' : TypeId) : aL C ⟨ρ, H⟩ ⟨d, .call ⟨.builtin .delete, #[m, x], #[t, t']⟩, ty, p, af, g⟩ = ap C H t (aev C ρ 0 m) (aev C ρ 0 x) := rfl
@[simp] theorem Mj (x : Operand) (t : TypeId) : aL C ⟨ρ, H⟩ ⟨d, .call ⟨.builtin .len, #[x], #[t]⟩, ty, p, af, g⟩ = gC H (xJ C t (aev C ρ t x)) := rfl
def wm (H : List Blk) (o : Option AV) : Option (Prop × AV × List Blk) := match o with | some v => some (True, v, H) | none => none
@[simp] theorem Kq (v : AV) : wm H (some v) = some (True, v, H) := rfl
@[simp] theorem Mk (x y : Operand) (t t' : TypeId) : aL C ⟨ρ, H⟩ ⟨d, .call ⟨.builtin .max, #[x, y], #[t, t']⟩, ty, p, af, g⟩ = wm H (AT [aev C ρ t x, aev C ρ t' y]) := by
 unfold aL bT k8 wm
 simp only [cy]
 cases AT [aev C ρ t x, aev C ρ t' y] <;> rfl
@[simp] theorem Ml (x y : Operand) (t t' : TypeId) : aL C ⟨ρ, H⟩ ⟨d, .call ⟨.builtin .min, #[x, y], #[t, t']⟩, ty, p, af, g⟩ = wm H (AU [aev C ρ t x, aev C ρ t' y]) := by
 unfold aL bT k8 wm
 simp only [cy]
 cases AU [aev C ρ t x, aev C ρ t' y] <;> rfl
@[simp] theorem H6 (t : TypeId) (sz : Nat) (f : Bool) (rows : List (List AV)) (x : AV) : nq C H t (.slice sz f rows) x = gw C H t (.slice sz f rows) x := rfl
@[simp] theorem Mf (t : TypeId) (l n : Nat) (x : AV) : nq C H t (.own l n) x = gw C H t (.own l n) x := rfl
@[simp] theorem FW (x y : Operand) (t t' : TypeId) : aL C ⟨ρ, H⟩ ⟨d, .call ⟨.builtin .append, #[x, y], #[t, t']⟩, ty, p, af, g⟩ = if t = t' then nq C H t (aev C ρ t x) (aev C ρ t' y) else none := rfl
@[simp] theorem Ig (x : Operand) (t : TypeId) : aL C ⟨ρ, H⟩ ⟨d, .call ⟨.builtin .clear, #[x], #[t]⟩, ty, p, af, g⟩ = oY C H t (aev C ρ t x) := rfl
@[simp] theorem Jh (x y : Operand) (t t' : TypeId) : aL C ⟨ρ, H⟩ ⟨d, .call ⟨.builtin .copy, #[x, y], #[t, t']⟩, ty, p, af, g⟩ = if t = t' then uT C H t (aev C ρ t x) (aev C ρ t' y) else none := rfl
def ot (C : Ctx) (t : TypeId) : Bool := match elT C.P t with
  | some e => (match zT C.P e with | some z => z.all AV.scal | none => false)
  | none => false
@[simp] theorem AY (t : TypeId) (n : Nat) (ps : Array (Nat × Operand)) : aL C ⟨ρ, H⟩ ⟨d, .buildSlice t n ps, ty, p, af, g⟩ =
  if ot C t = true then (if (bD C ρ t ps.toList).all (λ p => p.2.deepArg) then gC H (ce C t n (bD C ρ t ps.toList)) else none)
  else if (bD C ρ t ps.toList).any (λ p => yp p.2) = true then gM C H t n (bD C ρ t ps.toList)
  else gC (df ((bD C ρ t ps.toList).flatMap λ p => bo H 6 p.2) 0 H) (ce C t n ((bD C ρ t ps.toList).map λ p => (p.1, aX H 6 p.2))) := by
 have hk : bT C ⟨d, .buildSlice t n ps, ty, p, af, g⟩ = if ot C t = true then .read else .eff := by
  unfold bT ot
  simp only
  split
  ·rename_i e he
   split
   ·rename_i z hz; simp [he, hz]
   ·rename_i hz; simp [he, hz]
  ·rename_i hn
   simp [hn]
 unfold aL
 rw [hk]
 rcases ot C t
 case' true => simp only [if_true, nv]
 case' false => simp only [Bool.false_eq_true, if_false, o9]
 rotate_left
 ·cases ((bD C ρ t ps.toList).all λ p => p.snd.deepArg) with
  | true => simp only [if_true]; cases ce C t n (bD C ρ t ps.toList) <;> rfl
  | false => rfl
 ·cases ((bD C ρ t ps.toList).any λ p => yp p.snd) with
  | true => rfl
  | false => simp only [Bool.false_eq_true, if_false]; cases ce C t n ((bD C ρ t ps.toList).map λ p => (p.1, aX H 6 p.2)) <;> rfl
@[simp] theorem KM (sz : Nat) (f : Bool) (r : List (List AV)) : yp (.slice sz f r) = false := rfl
@[simp] theorem OF (c : List AV) : yp (.agg c) = false := rfl
@[simp] theorem OG (k : IntKind) (n : Int) : yp (.int k n) = false := rfl
@[simp] theorem OH (s : ByteArray) : yp (.str s) = false := rfl
def fD (e : Entry) (H : List Blk) (args : List AV) : Option (Prop × AV × List Blk) :=
 match e with
 | .pure q => gC H (dI H q args)
 | .frz q => gC (df (args.flatMap (bo H 6)) 0 H) (q (args.map (aX H 6)))
 | .gen q => q args H
 | .no => none
@[simp] theorem H7 (q : List AV -> Option (Prop × AV)) (args : List AV) : fD (.pure q) H args = gC H (dI H q args) := rfl
@[simp] theorem I8 (q : List AV -> Option (Prop × AV)) (args : List AV) : fD (.frz q) H args = gC (df (args.flatMap (bo H 6)) 0 H) (q (args.map (aX H 6))) := rfl
@[simp] theorem I9 (q : List AV -> List Blk -> Option (Prop × AV × List Blk)) (args : List AV) : fD (.gen q) H args = q args H := rfl
@[simp] theorem Jg (f : FuncId) (xs : Array Operand) (ts : Array TypeId) : aL C ⟨ρ, H⟩ ⟨d, .call ⟨.value (.func f), xs, ts⟩, ty, p, af, g⟩ = fD (C.S f) H (cy C ρ xs.toList ts.toList) := by
 unfold aL bT
 simp only
 cases h : C.S f with
 | no => simp only [kdE, o9, target, lP, h, fD, append_nil, length_nil, or_true, if_true]
 | pure q => simp only [kdE, nv, target, lP, h, fD, append_nil, length_nil, or_true, if_true]; cases dI H q _ <;> rfl
 | frz q => simp only [kdE, o9, target, lP, h, fD, append_nil, length_nil, or_true, if_true]; cases q _ <;> rfl
 | gen q => simp only [kdE, o9, target, lP, h, fD, append_nil, length_nil, or_true, if_true]
def sQ (C : Ctx) (v : AV) (H : List Blk) (args : List AV) : Option (Prop × AV × List Blk) :=
 match v with
 | .fn f cap => if f < 1000000 ∨ cap.length = 0 then fD (C.S f) H (args ++ cap) else fD (C.S (f - 1000000)) H (cap ++ args)
 | _ => none
@[simp] theorem Mg (f : FuncId) (cap args : List AV) : sQ C (.fn f cap) H args = if f < 1000000 ∨ cap.length = 0 then fD (C.S f) H (args ++ cap) else fD (C.S (f - 1000000)) H (cap ++ args) := rfl
@[simp] theorem If (t : Tmp) (xs : Array Operand) (ts : Array TypeId) : aL C ⟨ρ, H⟩ ⟨d, .call ⟨.value (.tmp t), xs, ts⟩, ty, p, af, g⟩ = sQ C (aQ ρ t) H (cy C ρ xs.toList ts.toList) := by
 unfold aL bT
 simp only [o9, target, FR]
 cases aQ ρ t with
 | fn f cap =>
  by_cases hc : f < 1000000 ∨ cap.length = 0
  ·simp only [sQ, if_pos hc]; rfl
  ·simp only [sQ, if_neg hc]; rfl
 | _ => rfl
@[simp] theorem Jf (ts : List TypeId) : cy C ρ [] ts = [] := by cases ts <;> rfl
@[simp] theorem Ib (x : Operand) (r : List Operand) (t : TypeId) (q : List TypeId) : cy C ρ (x :: r) (t :: q) = aev C ρ t x :: cy C ρ r q := rfl
end
attribute [simp] tu tt
@[simp] theorem FD (l : List Int) (x : Int) : aq l ++ [[.int .i64 x]] = aq (l ++ [x]) := by rw [bX]; rfl
@[simp] theorem FE (l : List ByteArray) (x : ByteArray) : aq l ++ [[.str x]] = aq (l ++ [x]) := by rw [bX]; rfl
@[simp] theorem OP {α : Type} [Enc α] (l m : List α) : aq l ++ aq m = aq (l ++ m) := (bX l m).symm
@[simp] theorem Pm (a b : Int) : (a == b) = decide (a = b) := by by_cases h : a = b <;> simp [h]
@[simp] theorem Pn (a b : Int) : (a != b) = !decide (a = b) := by by_cases h : a = b <;> simp [h]
@[simp] theorem Gr  : AV.isDeep (AV.undef) = true := rfl
@[simp] theorem IG (b : Bool) : AV.isDeep (.bool b : AV) = true := rfl
@[simp] theorem IE (b : Bool) : AV.isCell (.bool b : AV) = true := rfl
@[simp] theorem JS (b : Bool) : AV.flat1 (.bool b : AV) = true := rfl
@[simp] theorem F9 (b : Bool) : AV.deepArg (.bool b : AV) = true := rfl
@[simp] theorem II (b : Bool) : AV.isFlat (.bool b : AV) = true := rfl
@[simp] theorem ML (b : Bool) : gi (.bool b : AV) = (.bool b : AV) := rfl
@[simp] theorem MM (b : Bool) : bq (.bool b : AV) = (.bool b : AV) := rfl
@[simp] theorem M1 (H : List Blk) (d : Nat) (b : Bool) : aX H d (.bool b : AV) = (.bool b : AV) := by cases d <;> rfl
@[simp] theorem KS (H : List Blk) (d : Nat) (b : Bool) : bo H d (.bool b : AV) = [] := by cases d <;> rfl
@[simp] theorem J3 (k : IntKind) (n : Int) : AV.isDeep (.int k n : AV) = true := rfl
@[simp] theorem JY (k : IntKind) (n : Int) : AV.isCell (.int k n : AV) = true := rfl
@[simp] theorem Mz (k : IntKind) (n : Int) : AV.flat1 (.int k n : AV) = true := rfl
@[simp] theorem Io (k : IntKind) (n : Int) : AV.deepArg (.int k n : AV) = true := rfl
@[simp] theorem J9 (k : IntKind) (n : Int) : AV.isFlat (.int k n : AV) = true := rfl
@[simp] theorem Oq (k : IntKind) (n : Int) : gi (.int k n : AV) = (.int k n : AV) := rfl
@[simp] theorem Ot (k : IntKind) (n : Int) : bq (.int k n : AV) = (.int k n : AV) := rfl
@[simp] theorem Pa (H : List Blk) (d : Nat) (k : IntKind) (n : Int) : aX H d (.int k n : AV) = (.int k n : AV) := by cases d <;> rfl
@[simp] theorem MW (H : List Blk) (d : Nat) (k : IntKind) (n : Int) : bo H d (.int k n : AV) = [] := by cases d <;> rfl
@[simp] theorem J7 (s : ByteArray) : AV.isDeep (.str s : AV) = true := rfl
@[simp] theorem J2 (s : ByteArray) : AV.isCell (.str s : AV) = true := rfl
@[simp] theorem MA (s : ByteArray) : AV.flat1 (.str s : AV) = true := rfl
@[simp] theorem Iq (s : ByteArray) : AV.deepArg (.str s : AV) = true := rfl
@[simp] theorem Or (s : ByteArray) : gi (.str s : AV) = (.str s : AV) := rfl
@[simp] theorem Ou (s : ByteArray) : bq (.str s : AV) = (.str s : AV) := rfl
@[simp] theorem Pe (H : List Blk) (d : Nat) (s : ByteArray) : aX H d (.str s : AV) = (.str s : AV) := by cases d <;> rfl
@[simp] theorem MZ (H : List Blk) (d : Nat) (s : ByteArray) : bo H d (.str s : AV) = [] := by cases d <;> rfl
@[simp] theorem Gq (sz : Nat) (full : Bool) (rows : List (List AV)) : AV.isDeep (.slice sz full rows : AV) = true := rfl
@[simp] theorem Gp (sz : Nat) (full : Bool) (rows : List (List AV)) : AV.isCell (.slice sz full rows : AV) = true := rfl
@[simp] theorem Iz (sz : Nat) (full : Bool) (rows : List (List AV)) : AV.flat1 (.slice sz full rows : AV) = false := rfl
@[simp] theorem FA (sz : Nat) (full : Bool) (rows : List (List AV)) : AV.deepArg (.slice sz full rows : AV) = true := rfl
@[simp] theorem Gs (sz : Nat) (full : Bool) (rows : List (List AV)) : AV.isFlat (.slice sz full rows : AV) = false := rfl
@[simp] theorem Kz (sz : Nat) (full : Bool) (rows : List (List AV)) : gi (.slice sz full rows : AV) = (.slice sz false rows : AV) := rfl
@[simp] theorem dc (sz : Nat) (full : Bool) (rows : List (List AV)) : bq (.slice sz full rows : AV) = (.slice sz false rows : AV) := rfl
@[simp] theorem L5 (H : List Blk) (d : Nat) (sz : Nat) (full : Bool) (rows : List (List AV)) : aX H d (.slice sz full rows : AV) = (.slice sz full rows : AV) := by cases d <;> rfl
@[simp] theorem IX (H : List Blk) (d : Nat) (sz : Nat) (full : Bool) (rows : List (List AV)) : bo H d (.slice sz full rows : AV) = [] := by cases d <;> rfl
@[simp] theorem IH (l : Nat) : AV.isDeep (.mapo l : AV) = false := rfl
@[simp] theorem IF (l : Nat) : AV.isCell (.mapo l : AV) = true := rfl
def O7 (H : List Blk) (d : Nat) (e : AV) : AV := match e with | .tup [k, v] => .tup [k, aX H d v] | _ => .undef
def O8 (H : List Blk) (d : Nat) (b : Option Blk) : AV := match b with
 | some b => (match b.rows with
  | [ents] => if b.sz = 0 then .mapd (decide (b.e = 1)) (ents.map (O7 H d)) else .undef
  | _ => .undef)
 | none => .undef
@[simp] theorem B5 (H : List Blk) (d l : Nat) : aX H (d + 1) (.mapo l : AV) = O8 H d H[l]? := rfl
@[simp] theorem Gb (b : Bool) (e : List AV) : AV.deepArg (AV.mapd b e) = true := rfl
@[simp] theorem IJ (b : Bool) (e : List AV) : AV.isFlat (AV.mapd b e) = false := rfl
@[simp] theorem MO (b : Bool) (e : List AV) : bq (AV.mapd b e) = (AV.mapd b e) := rfl
@[simp] theorem M3 (H : List Blk) (d : Nat) (b : Bool) (e : List AV) : aX H d (AV.mapd b e) = (AV.mapd b e) := by cases d <;> rfl
@[simp] theorem J5 (l n : Nat) : AV.isDeep (.own l n : AV) = false := rfl
@[simp] theorem J0 (l n : Nat) : AV.isCell (.own l n : AV) = true := rfl
@[simp] theorem Ip (l n : Nat) : AV.deepArg (.own l n : AV) = false := rfl
@[simp] theorem J4 (l n s o k : Nat) : AV.isDeep (.osl l n s o k : AV) = false := rfl
@[simp] theorem JZ (l n s o k : Nat) : AV.isCell (.osl l n s o k : AV) = true := rfl
@[simp] theorem J6 (l n sz i f : Nat) : AV.isDeep (.ptr l n sz i f : AV) = false := rfl
@[simp] theorem J1 (l n sz i f : Nat) : AV.isCell (.ptr l n sz i f : AV) = true := rfl
@[simp] theorem Ga (cs : List AV) : AV.deepArg (.iptr cs : AV) = true := rfl
@[simp] theorem MN (cs : List AV) : bq (.iptr cs : AV) = (.iptr cs : AV) := rfl
@[simp] theorem M2 (H : List Blk) (d : Nat) (cs : List AV) : aX H d (.iptr cs : AV) = (.iptr cs : AV) := by cases d <;> rfl
@[simp] theorem In (cs : List AV) : AV.deepArg (.agg cs : AV) = cs.all AV.isDeep := rfl
@[simp] theorem J8 (cs : List AV) : AV.isFlat (.agg cs : AV) = cs.all AV.flat1 := rfl
@[simp] theorem iP (cs : List AV) : bq (.agg cs : AV) = (.agg (cs.map gi) : AV) := rfl
@[simp] theorem Ov (cs : List AV) : bq (.tup cs : AV) = (.tup (cs.map λ c => match c with | .agg ds => .agg (ds.map gi) | c => gi c) : AV) := rfl
@[simp] theorem MF (f : FuncId) (cs : List AV) : AV.isDeep (.fn f cs : AV) = false := rfl
@[simp] theorem ME (f : FuncId) (cs : List AV) : AV.isCell (.fn f cs : AV) = true := rfl
@[simp] theorem JG (f : FuncId) (cs : List AV) : AV.deepArg (.fn f cs : AV) = cs.all AV.isDeep := rfl
@[simp] theorem PF (f : FuncId) (cs : List AV) : bq (.fn f cs : AV) = (.fn f cs : AV) := rfl
@[simp] theorem Ka (cs : List AV) : AV.isFlat (.tup cs) = cs.all λ x => match x with | .agg cs => cs.all AV.flat1 | x => x.flat1 := rfl
@[simp] theorem O9 (H : List Blk) (d : Nat) (cs : List AV) : aX H (d + 1) (.agg cs) = .agg (cs.map (aX H d)) := rfl
@[simp] theorem Pf (H : List Blk) (d : Nat) (cs : List AV) : aX H (d + 1) (.tup cs) = .tup (cs.map (aX H d)) := rfl
@[simp] theorem PS (H : List Blk) (d : Nat) (f : FuncId) (cs : List AV) : aX H (d + 1) (.fn f cs) = .fn f (cs.map (aX H d)) := rfl
def xu (H : List Blk) (d : Nat) (deep : Bool) (rows : List (List AV)) : List (List AV) := if deep then rows else rows.map λ r => r.map (aX H d)
@[simp] theorem L3 (H : List Blk) (d : Nat) (rows : List (List AV)) : xu H d true rows = rows := rfl
def I2 (H : List Blk) (d n : Nat) (b : Option Blk) : AV := match b with | some b => if b.rows.length = n then .slice b.sz false (xu H d b.deep b.rows) else .undef | none => .undef
@[simp] theorem L1 (H : List Blk) (d n : Nat) (b : Blk) : I2 H d n (some b) = if b.rows.length = n then .slice b.sz false (xu H d b.deep b.rows) else .undef := rfl
@[simp] theorem Pc (H : List Blk) (d l n : Nat) : aX H (d + 1) (.own l n) = I2 H d n H[l]? := rfl
def I4 (H : List Blk) (d n sz off len : Nat) (b : Option Blk) : AV := match b with | some b => if b.rows.length = n /\ b.sz = sz then .slice b.sz false (xu H d b.deep ((b.rows.drop off).take len)) else .undef | none => .undef
@[simp] theorem L4 (H : List Blk) (d n sz off len : Nat) (b : Blk) : I4 H d n sz off len (some b) = if b.rows.length = n /\ b.sz = sz then .slice b.sz false (xu H d b.deep ((b.rows.drop off).take len)) else .undef := rfl
@[simp] theorem Pb (H : List Blk) (d l n sz off len : Nat) : aX H (d + 1) (.osl l n sz off len) = I4 H d n sz off len H[l]? := rfl
def Fl (H : List Blk) (d : Nat) (deep : Bool) (cs : List AV) : List AV := if deep then cs else cs.map (aX H d)
@[simp] theorem L0 (H : List Blk) (d : Nat) (cs : List AV) : Fl H d true cs = cs := rfl
def I3 (H : List Blk) (d n sz i f : Nat) (b : Option Blk) : AV := match b with | some b => if b.rows.length = n /\ b.sz = sz /\ i < n then .iptr (Fl H d b.deep ((dq b.rows i).drop f)) else .undef | none => .undef
@[simp] theorem L2 (H : List Blk) (d n sz i f : Nat) (b : Blk) : I3 H d n sz i f (some b) = if b.rows.length = n /\ b.sz = sz /\ i < n then .iptr (Fl H d b.deep ((dq b.rows i).drop f)) else .undef := rfl
@[simp] theorem Pd (H : List Blk) (d l n sz i f : Nat) : aX H (d + 1) (.ptr l n sz i f) = I3 H d n sz i f H[l]? := rfl
def yt (H : List Blk) (d : Nat) (b : Option Blk) : List Nat := match b with | some b => if b.deep then [] else b.rows.flatMap λ r => r.flatMap (bo H d) | none => []
@[simp] theorem IW (H : List Blk) (d : Nat) (b : Blk) : yt H d (some b) = if b.deep then [] else b.rows.flatMap λ r => r.flatMap (bo H d) := rfl
@[simp] theorem MY (H : List Blk) (d l n : Nat) : bo H (d + 1) (.own l n) = l :: yt H d H[l]? := rfl
@[simp] theorem MX (H : List Blk) (d l n sz off len : Nat) : bo H (d + 1) (.osl l n sz off len) = l :: yt H d H[l]? := rfl
@[simp] theorem MV (H : List Blk) (d : Nat) (cs : List AV) : bo H (d + 1) (.agg cs) = cs.flatMap (bo H d) := rfl
@[simp] theorem N0 (ls : List Nat) (i : Nat) : df ls i [] = [] := rfl
@[simp] theorem MB (ls : List Nat) (i : Nat) (e : TypeId) (sz : Nat) (rows : List (List AV)) (mu deep : Bool) (r : List Blk) : df ls i (⟨e, sz, rows, mu, deep⟩ :: r) = ⟨e, sz, rows, mu && !ls.contains i, deep⟩ :: df ls (i + 1) r := by
 rw [df]
 cases ls.contains i <;> simp
@[simp] theorem PD (i : Nat) : ∀ H : List Blk, df [] i H = H := by
 intro H
 induction H generalizing i with
 | nil => rfl
 | cons b r ih => rw [df, ih]; rfl
def NZ (H : List Blk) (r : AV) (o : Option (Prop × AV)) : Prop := match o with | some (ob, r') => ob /\ bq (aX H 6 r') = r | none => False
@[simp] theorem My (H : List Blk) (r r' : AV) (ob : Prop) : NZ H r (some (ob, r')) = (ob /\ bq (aX H 6 r') = r) := rfl
@[simp] theorem PC (C : Ctx) (rs : List ResultVar) (r : AV) (ρ : List (Nat × AV)) (H : List Blk) : vO C rs r ⟨ρ, H⟩ = NZ H r (bR C ⟨ρ, H⟩ rs) := rfl
end
end Go.Proofs.YtnbcneiicnepcaaGreatDoor