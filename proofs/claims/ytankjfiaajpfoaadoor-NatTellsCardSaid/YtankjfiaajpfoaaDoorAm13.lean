/-
  Blocks made, written, closed: how the relation goes on. Own work; no program in sight.
-/
import Derived.Test.YtankjfiaajpfoaaDoorAm12
namespace Go.Proofs.YtankjfiaajpfoaaDoor
open Go.RowKit

section
variable {C : Ctx} {w w' : World} {X : Nat → Prop} {β : List BI} {H : List Blk}

theorem getElem?_snoc_old {α : Type} {l : List α} {x : α} {i : Nat} (h : i < l.length) : (l ++ [x])[i]? = l[i]? := List.getElem?_append_left h
theorem getElem?_snoc_new {α : Type} (l : List α) (x : α) : (l ++ [x])[l.length]? = some x := by simp
theorem snoc_cases {α : Type} {l : List α} {x y : α} {i : Nat} (h : (l ++ [x])[i]? = some y) : (i < l.length ∧ l[i]? = some y) ∨ (i = l.length ∧ y = x) := by
  rcases Nat.lt_or_ge i l.length with h1 | h1
  · rw [getElem?_snoc_old h1] at h
    exact .inl ⟨h1, h⟩
  · have h2 := (List.getElem?_eq_some_iff.1 h).1
    simp at h2
    have h3 : i = l.length := by omega
    subst h3
    rw [getElem?_snoc_new] at h
    injection h with h
    exact .inr ⟨rfl, h.symm⟩

/-- A new block, or a nil slice that begins to be the call's own. -/
theorem push_step (R : HRel w X β H) (hk : Keeps (fun _ => False) w w') (bi : BI) (b : Blk) (h6 : ∀ bk c, bi = .lies bk c → w.heap.size ≤ bk) : StepR w β H w' (β ++ [bi]) (H ++ [b]) := by
  refine ⟨hk.weaken fun _ _ h => h.elim, ⟨fun l b0 h => ?_, fun l bk c h => ?_⟩, R.len⟩
  · have hl := (List.getElem?_eq_some_iff.1 h).1
    refine ⟨b0, by rw [getElem?_snoc_old hl]; exact h, rfl, rfl, Nat.le_refl _, fun _ => ?_, id⟩
    rw [getElem?_snoc_old (by rw [R.len]; exact hl)]
  · rcases snoc_cases h with ⟨_, h1⟩ | ⟨_, h1⟩
    · exact .inr ⟨c, h1⟩
    · exact .inl (h6 bk c h1.symm)

theorem push_hrel (R : HRel w X β H) (hk : Keeps (fun _ => False) w w') (bi : BI) (b : Blk) (h6 : ∀ bk c, bi = .lies bk c → w.heap.size ≤ bk) (h7 : ∀ bk c, bi = .lies bk c → bk < w'.heap.size)
    (hB : BlkRep w' (Mu X (β ++ [bi]) (H ++ [b])) (β ++ [bi]) (H ++ [b]) bi b) : HRel w' X (β ++ [bi]) (H ++ [b]) := by
  have S := push_step R hk bi b h6
  have hs := hk.size
  refine ⟨by simp [R.len], fun l bi' b' h1 h2 => ?_, fun l b' c h => ?_, fun l l' b' c c' h h' => ?_, fun b hb => Nat.lt_of_lt_of_le (R.base b hb) hs⟩
  · rcases snoc_cases h1 with ⟨k1, k2⟩ | ⟨k1, k2⟩ <;> rcases snoc_cases h2 with ⟨k3, k4⟩ | ⟨k3, k4⟩
    · exact (R.blk l bi' b' k2 k4).keep S fun bk c e => by subst e; exact hk.block bk (R.lt l bk c k2).1 id
    · have := R.len; omega
    · have := R.len; omega
    · subst k2 k4; exact hB
  · rcases snoc_cases h with ⟨_, h1⟩ | ⟨_, h1⟩
    · exact ⟨Nat.lt_of_lt_of_le (R.lt l b' c h1).1 hs, (R.lt l b' c h1).2⟩
    · exact ⟨h7 b' c h1.symm, fun hx => by have := R.base b' hx; have := h6 b' c h1.symm; omega⟩
  · rcases snoc_cases h with ⟨_, h1⟩ | ⟨e1, h1⟩ <;> rcases snoc_cases h' with ⟨_, h2⟩ | ⟨e2, h2⟩
    · exact R.inj l l' b' c c' h1 h2
    · have := (R.lt l b' c h1).1; have := h6 b' c' h2.symm; omega
    · have := (R.lt l' b' c' h2).1; have := h6 b' c h1.symm; omega
    · omega

/-- A block turned. -/
theorem set_step (R : HRel w X β H) {l : Nat} {b : Blk} {bi : BI} (hb : H[l]? = some b) (hbi : β[l]? = some bi) (bi' : BI) (b' : Blk) (h1 : b'.sz = b.sz) (h2 : b'.e = b.e) (h3 : b.rows.length ≤ b'.rows.length) (h4 : b'.rows.length = b.rows.length → bi' = bi)
    (h5 : b'.mu = true → b.mu = true) (h6 : ∀ bk c, bi' = .lies bk c → w.heap.size ≤ bk ∨ ∃ c', bi = .lies bk c') (hk : Keeps (MutB β H) w w') : StepR w β H w' (β.set l bi') (H.set l b') := by
  refine ⟨hk, ⟨fun k b0 h => ?_, fun k bk c h => ?_⟩, R.len⟩
  · by_cases e : l = k
    · subst e
      rw [hb] at h
      injection h with h
      subst h
      refine ⟨b', by rw [List.getElem?_set_self (List.getElem?_eq_some_iff.1 hb).1], h1, h2, h3, fun e => ?_, h5⟩
      rw [List.getElem?_set_self (List.getElem?_eq_some_iff.1 hbi).1, hbi, h4 e]
    · refine ⟨b0, by rw [List.getElem?_set_ne e]; exact h, rfl, rfl, Nat.le_refl _, fun _ => ?_, id⟩
      rw [List.getElem?_set_ne e]
  · by_cases e : l = k
    · subst e
      rw [List.getElem?_set_self (List.getElem?_eq_some_iff.1 hbi).1] at h
      injection h with h
      rcases h6 bk c h with h | ⟨c', h⟩
      · exact .inl h
      · exact .inr ⟨c', by rw [hbi, h]⟩
    · rw [List.getElem?_set_ne e] at h
      exact .inr ⟨c, h⟩

theorem set_hrel (R : HRel w X β H) {l : Nat} {b : Blk} {bi : BI} (hb : H[l]? = some b) (hbi : β[l]? = some bi) (bi' : BI) (b' : Blk) (S : StepR w β H w' (β.set l bi') (H.set l b'))
    (hoth : ∀ (l' bk c : Nat), l' ≠ l → β[l']? = some (BI.lies bk c) → w'.heap[bk]? = w.heap[bk]?) (hB : BlkRep w' (Mu X (β.set l bi') (H.set l b')) (β.set l bi') (H.set l b') bi' b')
    (hlt : ∀ bk c, bi' = .lies bk c → bk < w'.heap.size ∧ ¬ X bk) (hinj : ∀ (bk c l' c' : Nat), bi' = .lies bk c → l' ≠ l → β[l']? ≠ some (BI.lies bk c')) : HRel w' X (β.set l bi') (H.set l b') := by
  have hs := S.keeps.size
  refine ⟨by simp [R.len], fun k bi0 b0 h1 h2 => ?_, fun k b0 c h => ?_, fun k k' b0 c c' h h' => ?_, fun b hb => Nat.lt_of_lt_of_le (R.base b hb) hs⟩
  · by_cases e : l = k
    · subst e
      rw [List.getElem?_set_self (List.getElem?_eq_some_iff.1 hbi).1] at h1
      rw [List.getElem?_set_self (List.getElem?_eq_some_iff.1 hb).1] at h2
      injection h1 with h1; injection h2 with h2
      subst h1 h2
      exact hB
    · rw [List.getElem?_set_ne e] at h1 h2
      exact (R.blk k bi0 b0 h1 h2).keep S fun bk c e' => by subst e'; exact hoth k bk c (fun h => e h.symm) h1
  · by_cases e : l = k
    · subst e
      rw [List.getElem?_set_self (List.getElem?_eq_some_iff.1 hbi).1] at h
      injection h with h
      exact hlt b0 c h
    · rw [List.getElem?_set_ne e] at h
      exact ⟨Nat.lt_of_lt_of_le (R.lt k b0 c h).1 hs, (R.lt k b0 c h).2⟩
  · by_cases e : l = k <;> by_cases e' : l = k'
    · omega
    · subst e
      rw [List.getElem?_set_self (List.getElem?_eq_some_iff.1 hbi).1] at h
      injection h with h
      rw [List.getElem?_set_ne e'] at h'
      exact absurd h' (hinj b0 c k' c' h (fun h => e' h.symm))
    · subst e'
      rw [List.getElem?_set_self (List.getElem?_eq_some_iff.1 hbi).1] at h'
      injection h' with h'
      rw [List.getElem?_set_ne e] at h
      exact absurd h (hinj b0 c' k c h' (fun h => e h.symm))
    · rw [List.getElem?_set_ne e] at h
      rw [List.getElem?_set_ne e'] at h'
      exact R.inj k k' b0 c c' h h'

theorem frzL_get (ls : List Nat) : ∀ (H : List Blk) (i k : Nat), (frzL ls i H)[k]? = (H[k]?).map fun b => if ls.contains (i + k) then { b with mu := false } else b
  | [], i, k => by simp [frzL]
  | b :: r, i, k => by
    match k with
    | 0 => simp [frzL]
    | k + 1 =>
      simp only [frzL, List.getElem?_cons_succ, frzL_get ls r (i + 1) k]
      rw [show i + 1 + k = i + (k + 1) by omega]

theorem frz_step (R : HRel w X β H) (ls : List Nat) : StepR w β H w β (frzL ls 0 H) := by
  refine ⟨Keeps.refl _ _, ⟨fun l b h => ?_, fun l bk c h => .inr ⟨c, h⟩⟩, R.len⟩
  refine ⟨_, by rw [frzL_get, h]; rfl, ?_, ?_, ?_, fun _ => rfl, ?_⟩ <;> split <;> simp

theorem frzL_length (ls : List Nat) : ∀ (H : List Blk) (i : Nat), (frzL ls i H).length = H.length
  | [], _ => rfl
  | b :: r, i => by simp [frzL, frzL_length ls r (i + 1)]

theorem frz_hrel (R : HRel w X β H) (ls : List Nat) : HRel w X β (frzL ls 0 H) := by
  have S := frz_step R ls
  refine ⟨by rw [R.len, frzL_length], fun l bi b h1 h2 => ?_, R.lt, R.inj, R.base⟩
  rw [frzL_get] at h2
  simp only [Option.map_eq_some_iff] at h2
  obtain ⟨b0, h3, h4⟩ := h2
  have hB := (R.blk l bi b0 h1 h3).keep S fun _ _ _ => rfl
  subst h4
  split
  · cases bi with
    | nil => exact hB
    | lies bk c => exact hB
  · exact hB

/-- What is still closed to the eye behind the closing of the blocks ls. -/
theorem XL_frz {ls : List Nat} {b : Nat} (h : Mu X β (frzL ls 0 H) b) : XL X β H (fun l => l ∈ ls) b := by
  rcases h with h | ⟨l, c, blk, h1, h2, h3⟩
  · exact .inl h
  · rw [frzL_get] at h2
    simp only [Option.map_eq_some_iff] at h2
    obtain ⟨b0, h4, h5⟩ := h2
    subst h5
    split at h3
    · cases h3
    · rename_i hc
      exact .inr ⟨l, c, b0, h1, h4, h3, by simpa using hc⟩

theorem anew_sound (R : HRel w X β H) {t : TypeId} {cs : List AV} {ob : Prop} {r : AV} {H' : List Blk} (h : anew C H t (some cs) = some (ob, r, H')) {cur : Array Value} (hc : CRep w (Mu X β H) β H cur cs) :
    ∃ β', HRel (w.alloc (.cells cur t)) X β' H' ∧ StepR w β H (w.alloc (.cells cur t)) β' H' ∧ Rep (w.alloc (.cells cur t)) (Mu X β' H') β' H' (.pointer (some ⟨w.heap.size, 0, none⟩)) r := by
  unfold anew at h
  simp only at h
  split at h
  · rename_i hs
    injection h with h; injection h with e1 e2; injection e2 with e2 e3; subst e1 e2 e3
    have hk := Keeps.alloc (fun _ => False) w (.cells cur t)
    have S := push_step R hk (.lies w.heap.size 1) ⟨t, szT C.P t, [cs], true, cs.all AV.isDeep⟩ (fun bk c e => by injection e with e _; omega)
    refine ⟨β ++ [.lies w.heap.size 1], push_hrel R hk _ _ (fun bk c e => by injection e with e _; omega) (fun bk c e => by injection e with e _; subst e; simp) ?_, S, ?_⟩
    · refine ⟨cur, heap_alloc_new w _, by rw [hc.1, hs.1]; simp, Nat.le_refl _, by unfold maxLen; omega, by rw [hs.1]; exact hs.2, fun r hr => ?_, fun i j r av hi hj => ?_⟩
      · simp at hr; subst hr; exact hs.1.symm
      · match i with
        | 0 =>
          simp at hi
          subst hi
          obtain ⟨v, k1, k2, k3⟩ := hc.2 j av hj
          refine ⟨v, by simpa using k1, k2, k3.keep S, fun hd => ?_⟩
          have hd' : av.isDeep = true := List.all_eq_true.1 hd av (List.mem_of_getElem? hj)
          exact rep_deep hd' (k3.keep S)
        | i + 1 => simp at hi
    · refine .ptr H.length 1 _ 0 0 _ ⟨t, szT C.P t, [cs], true, cs.all AV.isDeep⟩ (by simp) (Nat.le_refl _) fun _ _ _ => ⟨w.heap.size, 1, ?_, by simp⟩
      rw [← R.len]
      simp
  · cases h

theorem madeCells_get (z : Array Value) (n k : Nat) (hk : k < n) (hz : 0 < z.size) : (madeCells z n)[k]? = z[k % z.size]? := by
  unfold madeCells
  have : k % z.size < z.size := Nat.mod_lt _ hz
  simp [hk, this]

theorem amake_sound (R : HRel w X β H) {t : TypeId} {l c : AV} {ob : Prop} {r : AV} {H' : List Blk} (h : amake C H t l c = some (ob, r, H')) (hob : ob) {vl vc : Value} (hl : Rep w (Mu X β H) β H vl l) (hc : Rep w (Mu X β H) β H vc c) :
    ∃ u w' β', (Instr.makeSlice t vl vc).run C.P w = .ok u w' ∧ HRel w' X β' H' ∧ StepR w β H w' β' H' ∧ Rep w' (Mu X β' H') β' H' u r := by
  unfold amake at h
  split at h
  · rename_i e kl l kc c he
    obtain rfl := rep_int hl
    obtain rfl := rep_int hc
    split at h
    · rename_i z hz
      injection h with h; injection h with e1 e2; injection e2 with e2 e3; subst e1 e2 e3
      obtain ⟨o1, o2, o3, o4⟩ := hob
      obtain ⟨i, zv, z1, z2, z3, z4, z5, z6, z7⟩ := zT_sound hz
      have hby : byT C.P e = i.bytes := by simp [byT, z1]
      rw [hby] at o3
      have hrun := run_make (P := C.P) w t e i zv (elT_eq he) z1 z2 kl kc l c o1 o2 (by
        have : ((c.toNat * i.bytes : Nat) : Int) ≤ 140737488355328 := by omega
        rw [Int.natCast_mul, Int.toNat_of_nonneg (by omega)] at this
        rw [Int.mul_comm]
        omega) (by omega)
      rw [z3] at hrun
      have hk := Keeps.alloc (fun _ => False) w (.cells (madeCells zv.cells (c.toNat * z.length)) e)
      have hz0 : 0 < z.length := by omega
      have S := push_step R hk (.lies w.heap.size c.toNat) ⟨e, szT C.P e, List.replicate l.toNat z, true, z.all AV.isDeep⟩ (fun bk c e => by injection e with e _; omega)
      refine ⟨_, _, β ++ [.lies w.heap.size c.toNat], hrun, push_hrel R hk _ _ (fun bk c e => by injection e with e _; omega) (fun bk c e => by injection e with e _; subst e; simp) ?_, S, ?_⟩
      · refine ⟨_, heap_alloc_new w _, by rw [size_madeCells, z5], by simp; omega, by unfold maxLen; omega, by rw [z5]; exact hz0, fun r hr => ?_, fun i j r av hi hj => ?_⟩
        · rw [List.eq_of_mem_replicate hr, z5]
        · have hi' := (List.getElem?_eq_some_iff.1 hi).1
          simp at hi'
          have hr : r = z := List.eq_of_mem_replicate (List.mem_of_getElem? hi)
          subst hr
          have hj' := (List.getElem?_eq_some_iff.1 hj).1
          obtain ⟨v, k1, k2, k3⟩ := z7 (w.alloc (.cells (madeCells zv.cells (c.toNat * r.length)) e)) (Mu X (β ++ [.lies w.heap.size c.toNat]) (H ++ [⟨e, szT C.P e, List.replicate l.toNat r, true, r.all AV.isDeep⟩])) j av hj
          refine ⟨v, ?_, k2, .deep k3, fun _ => k3⟩
          simp only [z5]
          have hm : (i * r.length + j) % r.length = j := by rw [Nat.add_comm, Nat.add_mul_mod_self_right, Nat.mod_eq_of_lt hj']
          rw [madeCells_get _ _ _ ?_ (by rw [z6]; exact hz0), z6, hm]
          · exact k1
          · have h1 : i + 1 ≤ c.toNat := by omega
            have h2 := Nat.mul_le_mul_right r.length h1
            rw [Nat.add_mul] at h2
            omega
      · refine .own H.length l.toNat _ _ ⟨e, szT C.P e, List.replicate l.toNat z, true, z.all AV.isDeep⟩ (by simp) (by simp) (.inr ⟨_, rfl⟩) fun _ => ?_
        rw [← R.len]
        simp [OwnAt]
    · cases h
  · cases h

end
end Go.Proofs.YtankjfiaajpfoaaDoor
