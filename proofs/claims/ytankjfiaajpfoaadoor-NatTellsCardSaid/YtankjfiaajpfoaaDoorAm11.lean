/-
  Looking through blocks; soundness of the operations that read them. Own work; no program in sight.
-/
import Derived.Test.YtankjfiaajpfoaaDoorAm10
namespace Go.Proofs.YtankjfiaajpfoaaDoor
open Go.RowKit

/-- What may not be looked at when the blocks of L are open to the eye. -/
def XL (X : Nat → Prop) (β : List BI) (H : List Blk) (L : Nat → Prop) (b : Nat) : Prop := X b ∨ ∃ (l c : Nat) (blk : Blk), β[l]? = some (BI.lies b c) ∧ H[l]? = some blk ∧ blk.mu = true ∧ ¬ L l

section
variable {C : Ctx} {w : World} {X : Nat → Prop} {β : List BI} {H : List Blk}

theorem XL_mu {L : Nat → Prop} {b : Nat} (h : XL X β H L b) : Mu X β H b := by
  rcases h with h | ⟨l, c, blk, h1, h2, h3, _⟩
  · exact .inl h
  · exact .inr ⟨l, c, blk, h1, h2, h3⟩

theorem XL_not (R : HRel w X β H) {L : Nat → Prop} {l b c : Nat} (hb : β[l]? = some (BI.lies b c)) (hl : L l) : ¬ XL X β H L b := by
  rintro (h | ⟨l', c', blk, h1, _, _, h4⟩)
  · exact (R.lt l b c hb).2 h
  · obtain rfl := R.inj l' l b c' c h1 hb
    exact h4 hl

theorem rep_deep {v : Value} {av : AV} (hd : av.isDeep = true) (h : Rep w X β H v av) : RepD w X v av := by
  cases h with
  | deep h => exact h
  | own => cases hd
  | ptr => cases hd
  | agg => cases hd
  | tup => cases hd
  | fn => cases hd

theorem HRel.mu_lt (R : HRel w X β H) (b : Nat) (h : Mu X β H b) : b < w.heap.size := by
  rcases h with h | ⟨l, c, blk, h1, _, _⟩
  · exact R.base b h
  · exact (R.lt l b c h1).1

/-- The cells of row i of a block, from cell f on. -/
theorem blk_cells {bk cap : Nat} {b : Blk} (h : BlkRep w (Mu X β H) β H (.lies bk cap) b) {i : Nat} (hi : i < b.rows.length) (f : Nat) {av : AV} {j : Nat} (hj : (b.rows[i].drop f)[j]? = some av) :
    ∃ v, w.cell? ⟨bk, i * b.sz + f + j, none⟩ = some v ∧ v.oneCell' = true ∧ Rep w (Mu X β H) β H v av ∧ (b.deep = true → RepD w (Mu X β H) v av) := by
  obtain ⟨cur, h1, h2, h3, h4, h5, h6, h7⟩ := h
  rw [List.getElem?_drop] at hj
  obtain ⟨v, k1, k2, k3, k4⟩ := h7 i (f + j) _ av (List.getElem?_eq_getElem hi) hj
  refine ⟨v, ?_, k2, k3, k4⟩
  rw [cell_of_row w bk _ cur b.e (0, 0) h1, Nat.add_assoc]
  exact k1

theorem view_sound (R : HRel w X β H) (L : Nat → Prop) : ∀ (d : Nat) {v : Value} {av : AV}, Rep w (Mu X β H) β H v av → (∀ l ∈ reach H d av, L l) → RepD w (XL X β H L) v (view H d av)
  | 0, v, av, h, _ => by
    unfold view
    split
    · rename_i hd
      exact (rep_deep hd h).mono fun b _ hb => XL_mu hb
    · exact .undef _
  | d + 1, v, av, h, hL => by
    have ih := fun {v : Value} {av : AV} (h : Rep w (Mu X β H) β H v av) (hL : ∀ l ∈ reach H d av, L l) => view_sound R L d h hL
    unfold view
    cases av with
    | own l n =>
      simp only
      obtain ⟨a, cap, b, rfl, hb, hn, h0, hx⟩ := rep_own h
      have hl : L l := hL l (by simp [reach])
      rw [hb]
      simp only
      split
      · rename_i hlen
        have hx := hx hlen
        cases hβ : β[l]? with
        | none => rw [hβ] at hx; exact hx.elim
        | some bi =>
          rw [hβ] at hx
          have hB := R.blk l bi b hβ hb
          cases bi with
          | nil =>
            obtain ⟨rfl, rfl⟩ := hx
            have hrows : b.rows = [] := hB.1
            rw [hrows]
            simp only [List.map_nil, ite_self]
            exact .slice _ false [] _ _ _ (fun _ _ => undef) rfl (Nat.le_refl _) (Nat.zero_le _) (fun h => by cases h) (fun r h => by cases h) (fun h => absurd rfl h) (fun i j r v h => by simp at h)
          | lies bk c =>
            obtain ⟨rfl, rfl⟩ := hx
            have hB' := hB
            obtain ⟨cur, h1, h2, h3, h4, h5, h6, h7⟩ := hB
            have hrl : (if b.deep = true then b.rows else b.rows.map fun r => r.map (view H d)).length = n := by split <;> simp [hlen]
            refine .slice b.sz false _ _ _ _ (fun i j => cur.getD (i * b.sz + j) undef) hrl.symm (by rw [hrl]; omega) h4 (fun h => by cases h) (fun r hr => ?_) (fun _ => ⟨bk, 0, rfl, (R.lt l bk cap hβ).1, XL_not R hβ hl, fun i j hi hj => ?_⟩) (fun i j r u hi hj => ?_)
            · split at hr
              · exact h6 r hr
              · obtain ⟨r', hr', rfl⟩ := List.mem_map.1 hr
                rw [List.length_map]
                exact h6 r' hr'
            · rw [hrl] at hi
              have hi' : i < b.rows.length := by omega
              have hrow : (b.rows[i]).length = b.sz := h6 _ (List.getElem_mem hi')
              obtain ⟨v, k1, k2, _⟩ := h7 i j _ _ (List.getElem?_eq_getElem hi') (List.getElem?_eq_getElem (show j < b.rows[i].length by omega))
              rw [show 0 + i * b.sz + j = i * b.sz + j by omega, cell_of_row w bk _ cur b.e (0, 0) h1, k1]
              have : cur.getD (i * b.sz + j) undef = v := by simp [Array.getD_eq_getD_getElem?, k1]
              rw [this]
              exact ⟨rfl, k2⟩
            · split at hi
              · rename_i hd
                obtain ⟨v, k1, k2, k3, k4⟩ := h7 i j r u hi hj
                have : cur.getD (i * b.sz + j) undef = v := by simp [Array.getD_eq_getD_getElem?, k1]
                rw [this]
                exact (k4 hd).mono fun b _ hb => XL_mu hb
              · rename_i hd
                rw [List.getElem?_map] at hi
                simp only [Option.map_eq_some_iff] at hi
                obtain ⟨r', hr', rfl⟩ := hi
                rw [List.getElem?_map] at hj
                simp only [Option.map_eq_some_iff] at hj
                obtain ⟨av', hav, rfl⟩ := hj
                obtain ⟨v, k1, k2, k3, k4⟩ := h7 i j r' av' hr' hav
                have : cur.getD (i * b.sz + j) undef = v := by simp [Array.getD_eq_getD_getElem?, k1]
                rw [this]
                refine ih k3 fun l' hl' => hL l' ?_
                simp only [reach, hb, hd]
                exact List.mem_cons_of_mem _ (List.mem_flatMap.2 ⟨r', List.mem_of_getElem? hr', List.mem_flatMap.2 ⟨av', List.mem_of_getElem? hav, hl'⟩⟩)
      · exact .undef _
    | ptr l n sz i f =>
      simp only
      obtain ⟨ad, b, rfl, hb, hn, hx⟩ := rep_ptr h
      have hl : L l := hL l (by simp [reach])
      rw [hb]
      simp only
      split
      · rename_i hc
        obtain ⟨bk, cap, hβ, rfl⟩ := hx hc.1 hc.2.1 hc.2.2
        have hB := R.blk l _ b hβ hb
        have hi' : i < b.rows.length := by omega
        rw [rowAt_get hi', ← hc.2.1]
        refine .iptr bk _ _ (fun j => (w.cell? ⟨bk, i * b.sz + f + j, none⟩).getD undef) (R.lt l bk cap hβ).1 (XL_not R hβ hl) (fun j hj => ?_) (fun j u hj => ?_)
        · have hj' : j < (b.rows[i].drop f).length := by split at hj <;> simpa using hj
          obtain ⟨v, k1, k2, _⟩ := blk_cells hB hi' f (List.getElem?_eq_getElem hj')
          rw [k1]
          exact ⟨rfl, k2⟩
        · split at hj
          · rename_i hd
            obtain ⟨v, k1, k2, k3, k4⟩ := blk_cells hB hi' f hj
            rw [k1]
            exact (k4 hd).mono fun b _ hb => XL_mu hb
          · rename_i hd
            rw [List.getElem?_map] at hj
            simp only [Option.map_eq_some_iff] at hj
            obtain ⟨av', hav, rfl⟩ := hj
            obtain ⟨v, k1, k2, k3, k4⟩ := blk_cells hB hi' f hav
            rw [k1]
            refine ih k3 fun l' hl' => hL l' ?_
            simp only [reach, hb, hd]
            rw [List.getElem?_drop] at hav
            exact List.mem_cons_of_mem _ (List.mem_flatMap.2 ⟨_, List.getElem_mem hi', List.mem_flatMap.2 ⟨av', List.mem_of_getElem? hav, hl'⟩⟩)
      · exact .undef _
    | agg cells =>
      simp only
      obtain ⟨cs, val, rfl, hl, hm, hv⟩ := rep_agg h
      refine .agg cs _ val (by simp [hl]) (fun j hj => hm j (by simpa using hj)) (fun j u hj => ?_)
      rw [List.getElem?_map] at hj
      simp only [Option.map_eq_some_iff] at hj
      obtain ⟨av', hav, rfl⟩ := hj
      exact ih (hv j av' hav) fun l hl => hL l (by simp only [reach]; exact List.mem_flatMap.2 ⟨av', List.mem_of_getElem? hav, hl⟩)
    | tup cells =>
      simp only
      obtain ⟨cs, val, rfl, hl, hm, hv⟩ := rep_tup h
      refine .tup cs _ val (by simp [hl]) (fun j hj => hm j (by simpa using hj)) (fun j u hj => ?_)
      rw [List.getElem?_map] at hj
      simp only [Option.map_eq_some_iff] at hj
      obtain ⟨av', hav, rfl⟩ := hj
      exact ih (hv j av' hav) fun l hl => hL l (by simp only [reach]; exact List.mem_flatMap.2 ⟨av', List.mem_of_getElem? hav, hl⟩)
    | fn f cells =>
      simp only
      obtain ⟨cs, val, rfl, hl, hm, hv⟩ := rep_fn h
      refine .fn f cs _ val (by simp [hl]) (fun j hj => hm j (by simpa using hj)) (fun j u hj => ?_)
      rw [List.getElem?_map] at hj
      simp only [Option.map_eq_some_iff] at hj
      obtain ⟨av', hav, rfl⟩ := hj
      exact ih (hv j av' hav) fun l hl => hL l (by simp only [reach]; exact List.mem_flatMap.2 ⟨av', List.mem_of_getElem? hav, hl⟩)
    | _ => exact (rep_deep rfl h).mono fun b _ hb => XL_mu hb

/-- Memory from an address on reads as a list of cells. -/
def MRep (w : World) (X : Nat → Prop) (β : List BI) (H : List Blk) (b off : Nat) (cells : List AV) : Prop :=
  ∀ (j : Nat) (av : AV), cells[j]? = some av → ∃ v, w.cell? ⟨b, off + j, none⟩ = some v ∧ v.oneCell' = true ∧ Rep w X β H v av

theorem headV_load {t : TypeId} {cells : List AV} {ob : Prop} {r : AV} (h : headV C t cells = some (ob, r)) (hob : ob) {b off : Nat} (hm : MRep w X β H b off cells) :
    ∃ u, (loadVar t ⟨b, off, none⟩).run C.P w = .ok u w ∧ Rep w X β H u r := by
  unfold headV at h
  split at h
  · rename_i ht
    split at h
    · cases h
    · rename_i hz
      injection h with h; injection h with h1 h2; subst h1 h2
      have key : ∀ j (hj : j < cells.length), ∃ v, w.cell? ⟨b, off + j, none⟩ = some v ∧ v.oneCell' = true ∧ Rep w X β H v cells[j] := fun j hj => hm j _ (List.getElem?_eq_getElem hj)
      let f : Nat → Value := fun j => (w.cell? ⟨b, off + j, none⟩).getD undef
      have hr := run_loadCells (P := C.P) w ⟨b, off, none⟩ (szT C.P t) f (fun j hj => by
        obtain ⟨v, h1, _⟩ := key j (by omega)
        rw [add_eq, show f j = v by simp [f, h1], h1])
      refine ⟨_, ?_, .agg ((List.range (szT C.P t)).map f).toArray _ f ?_ (fun j hj => ?_) (fun j u hu => ?_)⟩
      · simp [loadVar, run_isAgg ht, run_sizeOf (Nat.pos_of_ne_zero hz), hr]
      · simp; omega
      · simp only [List.length_take] at hj
        obtain ⟨v, h1, h2, _⟩ := key j (by omega)
        have hj' : j < szT C.P t := by omega
        refine ⟨by simp [hj'], ?_⟩
        rw [show f j = v by simp [f, h1]]
        exact h2
      · rw [List.getElem?_take] at hu
        split at hu
        · obtain ⟨v, h1, _, h3⟩ := hm j u hu
          rw [show f j = v by simp [f, h1]]
          exact h3
        · cases hu
  · rename_i ht
    injection h with h; injection h with h1 h2; subst h1 h2
    obtain ⟨v, h1, _, h3⟩ := hm 0 _ (List.getElem?_eq_getElem hob)
    refine ⟨v, ?_, ?_⟩
    · rw [Nat.add_zero] at h1
      simp [loadVar, run_isAgg ht, run_load, h1]
    · rw [List.getD_eq_getElem?_getD, List.getElem?_eq_getElem hob]
      exact h3
  · cases h

theorem aload_sound (R : HRel w X β H) {t : TypeId} {p : AV} {ob : Prop} {r : AV} (h : aload C H t p = some (ob, r)) (hob : ob) {vp : Value} (hp : Rep w (Mu X β H) β H vp p) :
    ∃ u, (Instr.loadAt t vp).run C.P w = .ok u w ∧ Rep w (Mu X β H) β H u r := by
  unfold aload at h
  split at h
  · rename_i cs
    have hd := rep_iptr hp
    obtain ⟨b, o, rfl⟩ := iptr_form hd
    cases hd with
    | iptr _ _ _ val hb hX hm hv =>
      obtain ⟨u, h1, h2⟩ := headV_load (w := w) (X := Mu X β H) (β := β) (H := H) h hob (b := b) (off := o) (fun j av hj => ⟨val j, (hm j (List.getElem?_eq_some_iff.1 hj).1).1, (hm j (List.getElem?_eq_some_iff.1 hj).1).2, .deep (hv j av hj)⟩)
      exact ⟨u, by simp [Instr.loadAt, Instr.sureAddr, h1], h2⟩
  · rename_i l n sz i f
    split at h
    · rename_i b hb
      split at h
      · rename_i ob' v hh
        injection h with h; injection h with e1 e2; subst e1 e2
        obtain ⟨⟨o1, o2, o3⟩, o4⟩ := hob
        obtain ⟨ad, b', rfl, hb', hn, hx⟩ := rep_ptr hp
        rw [hb] at hb'
        injection hb' with hb'
        subst hb'
        obtain ⟨bk, cap, hβ, rfl⟩ := hx o1 o2 o3
        have hi : i < b.rows.length := by omega
        rw [rowAt_get hi] at hh
        obtain ⟨u, h1, h2⟩ := headV_load hh o4 (b := bk) (off := i * sz + f) (fun j av hj => by
          obtain ⟨v, k1, k2, k3, _⟩ := blk_cells (R.blk l _ b hβ hb) hi f hj
          rw [← o2]
          exact ⟨v, k1, k2, k3⟩)
        exact ⟨u, by simp [Instr.loadAt, Instr.sureAddr, h1], h2⟩
      · cases h
    · cases h
  · cases h

end
end Go.Proofs.YtankjfiaajpfoaaDoor
