/-
  Soundness of the operations that look at no block, fourth part: cells and what is built of them. Own work; no program in sight.
-/
import Derived.Test.YtankjfiaajpfoaaDoorAm7
namespace Go.Proofs.YtankjfiaajpfoaaDoor
open Go.RowKit

/-- A row of cells that reads as a list. -/
def CRep (w : World) (X : Nat → Prop) (β : List BI) (H : List Blk) (cs : Array Value) (cells : List AV) : Prop :=
  cs.size = cells.length ∧ ∀ (j : Nat) (av : AV), cells[j]? = some av → ∃ v, cs[j]? = some v ∧ v.oneCell' = true ∧ Rep w X β H v av

section
variable {C : Ctx} {w : World} {X : Nat → Prop} {β : List BI} {H : List Blk}

theorem CRep.agg {cs : Array Value} {cells : List AV} (h : CRep w X β H cs cells) : Rep w X β H (.agg cs) (.agg cells) := by
  refine .agg cs cells (fun j => cs.getD j undef) h.1 (fun j hj => ?_) (fun j u hu => ?_)
  · obtain ⟨v, h1, h2, _⟩ := h.2 j _ (List.getElem?_eq_getElem hj)
    have : cs.getD j undef = v := by simp [Array.getD_eq_getD_getElem?, h1]
    rw [this]
    exact ⟨h1, h2⟩
  · obtain ⟨v, h1, _, h3⟩ := h.2 j _ hu
    have : cs.getD j undef = v := by simp [Array.getD_eq_getD_getElem?, h1]
    rw [this]
    exact h3

theorem crep_of_agg {cells : List AV} {v : Value} (h : Rep w X β H v (.agg cells)) : ∃ cs, v = .agg cs ∧ CRep w X β H cs cells := by
  obtain ⟨cs, val, rfl, hl, hm, hv⟩ := rep_agg h
  exact ⟨cs, rfl, hl, fun j av hj => ⟨_, (hm j (List.getElem?_eq_some_iff.1 hj).1).1, (hm j (List.getElem?_eq_some_iff.1 hj).1).2, hv j av hj⟩⟩

theorem cellsOf_sound {t : TypeId} {v : AV} {cs : List AV} (h : cellsOf C t v = some cs) {u : Value} (hu : Rep w X β H u v) : CRep w X β H u.cells cs ∧ cs.length = szT C.P t := by
  unfold cellsOf at h
  split at h
  · split at h
    · split at h
      · rename_i hl
        injection h with h; subst h
        obtain ⟨a, rfl, h1⟩ := crep_of_agg hu
        exact ⟨h1, hl⟩
      · cases h
    · cases h
  · split at h
    · rename_i hc
      injection h with h; subst h
      simp only [Bool.and_eq_true, beq_iff_eq] at hc
      have h1 := rep_cell hu hc.1
      have h2 : u.cells = #[u] := by cases u <;> first | rfl | cases h1
      rw [h2]
      refine ⟨⟨rfl, fun j av hj => ?_⟩, hc.2.symm⟩
      match j with
      | 0 => simp at hj; subst hj; exact ⟨u, rfl, h1, hu⟩
      | j + 1 => simp at hj
    · cases h
  · cases h

theorem foldl_set (off : Nat) : ∀ (vs : List Value) (k0 : Nat) (cells : Array Value),
    ((vs.zipIdx k0).foldl (fun cs x => cs.setIfInBounds (off + x.2) x.1) cells).size = cells.size ∧
    ∀ k : Nat, ((vs.zipIdx k0).foldl (fun cs x => cs.setIfInBounds (off + x.2) x.1) cells)[k]? = if off + k0 ≤ k ∧ k < off + k0 + vs.length ∧ k < cells.size then vs[k - (off + k0)]? else cells[k]?
  | [], k0, cells => by
    refine ⟨rfl, fun k => ?_⟩
    rw [if_neg (by simp; omega)]
    rfl
  | v :: vs, k0, cells => by
    obtain ⟨h1, h2⟩ := foldl_set off vs (k0 + 1) (cells.setIfInBounds (off + k0) v)
    simp only [List.zipIdx_cons, List.foldl_cons, List.length_cons]
    refine ⟨by rw [h1]; simp, fun k => ?_⟩
    rw [h2 k]
    simp only [Array.size_setIfInBounds]
    by_cases hk : off + k0 = k
    · subst hk
      rw [if_neg (by omega)]
      by_cases hs : off + k0 < cells.size
      · rw [if_pos ⟨Nat.le_refl _, by omega, hs⟩]
        simp [hs]
      · rw [if_neg (by omega)]
        simp [hs]
    · by_cases hc : off + (k0 + 1) ≤ k ∧ k < off + (k0 + 1) + vs.length ∧ k < cells.size
      · rw [if_pos hc, if_pos ⟨by omega, by omega, hc.2.2⟩]
        have : k - (off + k0) = (k - (off + (k0 + 1))) + 1 := by omega
        rw [this]
        rfl
      · rw [if_neg hc, if_neg (by omega)]
        rw [Array.getElem?_setIfInBounds_ne hk]

theorem splice_get (row cs : List AV) (f k : Nat) (h : f + cs.length ≤ row.length) : (splice row f cs)[k]? = if f ≤ k ∧ k < f + cs.length then cs[k - f]? else row[k]? := by
  unfold splice
  by_cases h1 : k < f
  · rw [if_neg (by omega), List.append_assoc, List.getElem?_append_left (by simp; omega), List.getElem?_take, if_pos h1]
  · by_cases h2 : k < f + cs.length
    · rw [if_pos ⟨by omega, h2⟩, List.getElem?_append_left (by simp; omega), List.getElem?_append_right (by simp; omega)]
      simp only [List.length_take, Nat.min_eq_left (show f ≤ row.length by omega)]
    · rw [if_neg (by omega), List.getElem?_append_right (by simp; omega), List.getElem?_drop]
      simp only [List.length_append, List.length_take, Nat.min_eq_left (show f ≤ row.length by omega)]
      congr 1
      omega

theorem splice_length (row cs : List AV) (f : Nat) (h : f + cs.length ≤ row.length) : (splice row f cs).length = row.length := by
  unfold splice
  simp
  omega

theorem CRep.splice {cs vc : Array Value} {row cells : List AV} {off : Nat} (h : CRep w X β H cs row) (hv : CRep w X β H vc cells) (hf : off + cells.length ≤ row.length) :
    CRep w X β H (vc.zipIdx.foldl (fun (cs : Array Value) (x : Value × Nat) => cs.setIfInBounds (off + x.2) x.1) cs) (splice row off cells) := by
  have e : vc.zipIdx.foldl (fun (cs : Array Value) (x : Value × Nat) => cs.setIfInBounds (off + x.2) x.1) cs = (vc.toList.zipIdx 0).foldl (fun cs x => cs.setIfInBounds (off + x.2) x.1) cs := by
    rw [← Array.foldl_toList]
    simp
  rw [e]
  obtain ⟨h1, h2⟩ := foldl_set off vc.toList 0 cs
  have hl : vc.toList.length = cells.length := by simpa using hv.1
  refine ⟨by rw [h1, splice_length _ _ _ hf, h.1], fun j av hj => ?_⟩
  rw [h2 j, Nat.add_zero, hl]
  have hj' := (List.getElem?_eq_some_iff.1 hj).1
  rw [splice_length _ _ _ hf] at hj'
  rw [splice_get _ _ _ _ hf] at hj
  by_cases hc : off ≤ j ∧ j < off + cells.length
  · rw [if_pos hc] at hj
    rw [if_pos ⟨hc.1, hc.2, by rw [h.1]; exact hj'⟩]
    obtain ⟨v, k1, k2, k3⟩ := hv.2 _ _ hj
    exact ⟨v, by simpa using k1, k2, k3⟩
  · rw [if_neg hc] at hj
    rw [if_neg (fun hh => hc ⟨hh.1, hh.2.1⟩)]
    exact h.2 j av hj

theorem zfit_sound {v : Value} {a : AV} (h : zfit v a = true) : v.oneCell' = true ∧ RepD w X v a := by
  unfold zfit at h
  split at h
  · simp at h; subst h; exact ⟨rfl, .bool _⟩
  · simp at h; obtain ⟨rfl, rfl⟩ := h; exact ⟨rfl, .int _ _⟩
  · rename_i a b
    simp at h
    have : a = b := by rw [h.1, h.2]
    subst this
    exact ⟨rfl, .str _⟩
  · rename_i rows
    simp at h; subst h
    exact ⟨rfl, .slice _ _ [] none 0 0 (fun _ _ => Go.undef) rfl (Nat.le_refl _) (Nat.zero_le _) (fun _ => rfl) (fun r h => by cases h) (fun h => absurd rfl h) (fun i j r v h => by simp at h)⟩
  · exact ⟨rfl, .nilptr⟩
  · cases h

theorem zfits_sound : ∀ {vs : List Value} {as : List AV}, zfits vs as = true → vs.length = as.length ∧ ∀ (j : Nat) (av : AV), as[j]? = some av → ∃ v, vs[j]? = some v ∧ v.oneCell' = true ∧ RepD w X v av
  | [], [], _ => ⟨rfl, fun j av h => by simp at h⟩
  | v :: r, a :: q, h => by
    simp only [zfits, Bool.and_eq_true] at h
    obtain ⟨h1, h2⟩ := zfits_sound h.2
    obtain ⟨k1, k2⟩ := zfit_sound (w := w) (X := X) h.1
    refine ⟨by simp [h1], fun j av hj => ?_⟩
    match j with
    | 0 => simp at hj; subst hj; exact ⟨v, rfl, k1, k2⟩
    | j + 1 => exact h2 j av (by simpa using hj)
  | [], _ :: _, h => by simp [zfits] at h
  | _ :: _, [], h => by simp [zfits] at h

theorem zT_sound {P : Program} {t : TypeId} {z : List AV} (h : zT P t = some z) : ∃ i zv, P.info? t = some i ∧ i.zero = some zv ∧ i.size = z.length ∧ 0 < i.size ∧ szT P t = z.length ∧ zv.cells.size = z.length ∧
    ∀ (w : World) (X : Nat → Prop) (j : Nat) (av : AV), z[j]? = some av → ∃ v, zv.cells[j]? = some v ∧ v.oneCell' = true ∧ RepD w X v av := by
  unfold zT at h
  split at h
  · rename_i i hi
    split at h
    · rename_i zv hz
      split at h
      · rename_i hc
        injection h with h
        simp only [Bool.and_eq_true, beq_iff_eq, decide_eq_true_eq] at hc
        have h1 := fun (w : World) (X : Nat → Prop) => zfits_sound hc.1.1 (w := w) (X := X)
        rw [h] at h1
        have hl : zv.cells.size = z.length := by simpa using (h1 default (fun _ => False)).1
        refine ⟨i, zv, hi, hz, by rw [hc.1.2, hl], hc.2, ?_, hl, fun w X j av hj => ?_⟩
        · simp [szT, hi, hc.1.2, hl]
        · obtain ⟨v, k1, k2, k3⟩ := (h1 w X).2 j av hj
          exact ⟨v, by simpa using k1, k2, k3⟩
      · cases h
    · cases h
  · cases h

theorem zT_crep {z : List AV} {zv : Value} (hl : zv.cells.size = z.length) (h : ∀ (w : World) (X : Nat → Prop) (j : Nat) (av : AV), z[j]? = some av → ∃ v, zv.cells[j]? = some v ∧ v.oneCell' = true ∧ RepD w X v av) : CRep w X β H zv.cells z :=
  ⟨hl, fun j av hj => let ⟨v, h1, h2, h3⟩ := h w X j av hj; ⟨v, h1, h2, .deep h3⟩⟩

theorem abuildGo_sound (place : Nat → Option (Nat × TypeId)) (pl : Nat → Option (Nat × Nat)) (hp : ∀ k off ty, place k = some (off, ty) → pl k = some (off, szT C.P ty)) :
    ∀ (parts : List (Nat × AV)) (vparts : List (Nat × Value)) (cells r : List AV) (cs : Array Value), abuildGo C place cells parts = some r → CRep w X β H cs cells →
      vparts.length = parts.length → (∀ (j k : Nat) (u : AV), parts[j]? = some (k, u) → ∃ v, vparts[j]? = some (k, v) ∧ Rep w X β H v u) → ∃ cs', Instr.fill pl cs vparts = some cs' ∧ CRep w X β H cs' r
  | [], vparts, cells, r, cs, h, hc, hl, hv => by
    simp only [abuildGo, Option.some.injEq] at h
    subst h
    obtain rfl := List.length_eq_zero_iff.1 hl
    exact ⟨cs, rfl, hc⟩
  | (k, u) :: parts, vparts, cells, r, cs, h, hc, hl, hv => by
    obtain ⟨v, h1, h2⟩ := hv 0 k u rfl
    match vparts, hl, hv, h1 with
    | x :: vp, hl, hv, h1 =>
      simp at h1
      subst h1
      simp only [abuildGo] at h
      split at h
      · rename_i off ty hpl
        split at h
        · rename_i cu hcu
          split at h
          · rename_i hle
            obtain ⟨k1, k2⟩ := cellsOf_sound hcu h2
            have hsz : v.cells.size = szT C.P ty := by rw [k1.1, k2]
            obtain ⟨cs', k3, k4⟩ := abuildGo_sound place pl hp parts vp _ r _ h (hc.splice k1 hle) (by simpa using hl) (fun j k u hj => by have := hv (j + 1) k u (by simpa using hj); simpa using this)
            refine ⟨cs', ?_, k4⟩
            unfold Instr.fill
            rw [hp k off ty hpl]
            simp only
            rw [if_neg, k3]
            simp only [hsz, ne_eq, not_true_eq_false, Bool.false_or, decide_false]
            have := hc.1
            simp
            omega
          · cases h
        · cases h
      · cases h

end
end Go.Proofs.YtankjfiaajpfoaaDoor
