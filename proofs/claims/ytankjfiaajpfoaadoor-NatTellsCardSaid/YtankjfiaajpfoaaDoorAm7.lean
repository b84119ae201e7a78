/-
  Soundness of the operations that look at no block, third part. Own work; no program in sight.
-/
import Derived.Test.YtankjfiaajpfoaaDoorAm6
namespace Go.Proofs.YtankjfiaajpfoaaDoor
open Go.RowKit

section
variable {C : Ctx} {w : World} {X : Nat → Prop} {β : List BI} {H : List Blk}

theorem rowAt_get {rows : List (List AV)} {i : Nat} (h : i < rows.length) : rowAt rows i = rows[i] := by
  unfold rowAt
  rw [List.getD_eq_getElem?_getD, List.getElem?_eq_getElem h]
  rfl

theorem repD_slice {v : Value} {sz : Nat} {full : Bool} {rows : List (List AV)} (h : RepD w X v (.slice sz full rows)) : ∃ (a : Option Addr) (cap : Nat) (val : Nat → Nat → Value), v = .slice a rows.length cap ∧ rows.length ≤ cap ∧ cap ≤ maxLen ∧ (full = true → cap = rows.length) ∧
    (∀ r ∈ rows, r.length = sz) ∧ (rows.length ≠ 0 → ∃ b off, a = some ⟨b, off, none⟩ ∧ b < w.heap.size ∧ ¬ X b ∧ ∀ i j, i < rows.length → j < sz → w.cell? ⟨b, off + i * sz + j, none⟩ = some (val i j) ∧ (val i j).oneCell' = true) ∧
    (∀ i j r v, rows[i]? = some r → r[j]? = some v → RepD w X (val i j) v) := by
  cases h with
  | slice _ _ _ a n cap val hn h1 h2 h3 hr hm hv => subst hn; exact ⟨a, cap, val, rfl, h1, h2, h3, hr, hm, hv⟩

theorem aindexAddr_sound {t : TypeId} {x ix : AV} {ob : Prop} {r : AV} (h : aindexAddr C t x ix = some (ob, r)) (hob : ob) {vx vi : Value} (hx : Rep w X β H vx x) (hi : Rep w X β H vi ix) :
    ∃ u, (Instr.indexAt t vx vi).run C.P w = .ok u w ∧ Rep w X β H u r := by
  unfold aindexAddr at h
  split at h
  · rename_i k i
    obtain rfl := rep_int hi
    split at h
    · rename_i e he
      have hu := elT_eq he
      split at h
      · cases h
      · rename_i hz
        have hz := Nat.pos_of_ne_zero hz
        split at h
        · rename_i sz full rows
          split at h
          · rename_i hsz
            injection h with h; injection h with h1 h2; subst h1 h2
            obtain ⟨a, cap, val, rfl, h1, h2, h3, hr, hm, hv⟩ := repD_slice (rep_slice hx)
            obtain ⟨n, rfl⟩ := Int.eq_ofNat_of_zero_le hob.1
            have hn : n < rows.length := by omega
            obtain ⟨b, off, rfl, hb, hX, hc⟩ := hm (by omega)
            rw [rowAt_get (by simpa using hn)]
            refine ⟨.pointer (some ⟨b, off + n * sz, none⟩), ?_, .deep (.iptr b _ _ (fun j => val n j) hb hX (fun j hj => ?_) (fun j v hj => ?_))⟩
            · simp [Instr.indexAt, asIntOf, run_underlying hu, run_sizeOf hz, hn, add_eq, hsz]
            · simp only [Int.toNat_natCast] at hj
              rw [hr _ (List.getElem_mem hn)] at hj
              exact hc n j hn hj
            · simp only [Int.toNat_natCast] at hj
              exact hv n j _ v (List.getElem?_eq_getElem hn) hj
          · cases h
        · rename_i l n
          injection h with h; injection h with h1 h2; subst h1 h2
          obtain ⟨a, cap, b, rfl, hb, hn, h0, hx⟩ := rep_own hx
          obtain ⟨i, rfl⟩ := Int.eq_ofNat_of_zero_le hob.1
          have hi : i < n := by omega
          obtain ⟨ad, rfl⟩ := h0.resolve_left (by omega)
          refine ⟨.pointer (some (ad.add (i * szT C.P e))), ?_, ?_⟩
          · simp [Instr.indexAt, asIntOf, run_underlying hu, run_sizeOf hz, hi]
          · rw [Int.toNat_natCast]
            refine .ptr l n _ i 0 _ b hb hn fun e1 e2 _ => ?_
            have h := hx e1
            cases hβ : β[l]? with
            | none => rw [hβ] at h; exact h.elim
            | some bi =>
              rw [hβ] at h
              cases bi with
              | nil => have := h.1; omega
              | lies bk c =>
                obtain ⟨h1, rfl⟩ := h
                injection h1 with h1
                subst h1
                exact ⟨bk, cap, rfl, by rw [add_eq]; simp⟩
        · cases h
    · rename_i m e he1 he2
      have hu := arrT_eq he2
      split at h
      · cases h
      · rename_i hz
        have hz := Nat.pos_of_ne_zero hz
        split at h
        · injection h with h; injection h with h1 h2; subst h1 h2
          obtain ⟨a, b, rfl, _⟩ := rep_ptr hx
          obtain ⟨i, rfl⟩ := Int.eq_ofNat_of_zero_le hob.1
          have hi : i < m := by omega
          refine ⟨.pointer (some (a.add (i * szT C.P e))), ?_, ?_⟩
          · simp [Instr.indexAt, asIntOf, run_underlying hu, run_sizeOf hz, hi, Instr.sureAddr]
          · rw [Int.toNat_natCast]; exact ptr_add hx
        · injection h with h; injection h with h1 h2; subst h1 h2
          have hd := rep_iptr hx
          obtain ⟨b, o, rfl⟩ := iptr_form hd
          obtain ⟨i, rfl⟩ := Int.eq_ofNat_of_zero_le hob.1
          have hi : i < m := by omega
          refine ⟨.pointer (some ⟨b, o + i * szT C.P e, none⟩), ?_, ?_⟩
          · simp [Instr.indexAt, asIntOf, run_underlying hu, run_sizeOf hz, hi, Instr.sureAddr, add_eq]
          · rw [Int.toNat_natCast]; exact .deep (iptr_drop hd)
        · cases h
    · cases h
  · cases h

theorem bt_at {s : ByteArray} {j : Nat} (h : j < s.size) : s[j]? = some (s[j]'h) ∧ (s[j]'h).toNat = btA s j := by
  refine ⟨by simp [h], ?_⟩
  have h' : j < s.data.toList.length := by simpa using h
  unfold btA
  rw [List.getD_eq_getElem?_getD, List.getElem?_eq_getElem h']
  rfl

theorem aindex_sound {t : TypeId} {x ix : AV} {ob : Prop} {r : AV} (h : aindex C t x ix = some (ob, r)) (hob : ob) {vx vi : Value} (hx : Rep w X β H vx x) (hi : Rep w X β H vi ix) :
    ∃ u, (Instr.index t vx vi).run C.P w = .ok u w ∧ Rep w X β H u r := by
  unfold aindex at h
  split at h
  · rename_i s k i
    obtain rfl := rep_int hi
    obtain rfl := rep_str hx
    split at h
    · rename_i ht
      injection h with h; injection h with h1 h2; subst h1 h2
      obtain ⟨n, rfl⟩ := Int.eq_ofNat_of_zero_le hob.1
      have hn : n < s.size := by omega
      refine ⟨.int .u8 (btA s n), ?_, .deep (.int _ _)⟩
      have := bt_at hn
      simp [Instr.index, asIntOf, run_underlying (strT_eq ht), this.1, this.2]
    · cases h
  · rename_i cells k i
    obtain rfl := rep_int hi
    obtain ⟨cs, val, rfl, hl, hm, hv⟩ := rep_agg hx
    split at h
    · rename_i n e he
      split at h
      · cases h
      · rename_i hz
        split at h
        · rename_i ob' v hh
          injection h with h; injection h with h1 h2; subst h1 h2
          obtain ⟨m, rfl⟩ := Int.eq_ofNat_of_zero_le hob.1.1
          have hn : m < n := by have := hob.1.2; omega
          obtain ⟨u, h3, h4⟩ := headV_part hh hob.2 hl hm hv
          rw [Int.toNat_natCast] at h3
          exact ⟨u, by simp [Instr.index, asIntOf, run_underlying (arrT_eq he), hn, run_sizeOf (Nat.pos_of_ne_zero hz), h3], h4⟩
        · cases h
    · cases h
  · cases h

theorem alen_sound {t : TypeId} {x : AV} {ob : Prop} {r : AV} (h : alen C t x = some (ob, r)) {vx : Value} (hx : Rep w X β H vx x) (ty : TypeId) : ∃ u, (Builtin.len_ #[t] ty #[vx]).run C.P w = .ok u w ∧ Rep w X β H u r := by
  unfold alen at h
  split at h
  · obtain rfl := rep_str hx
    split at h
    · rename_i ht
      injection h with h; injection h with h1 h2; subst h1 h2
      refine ⟨_, ?_, .deep (.int _ _)⟩
      simp [Builtin.len_, run_underlying (strT_eq ht), goInt]
    · cases h
  · obtain ⟨a, cap, val, rfl, _⟩ := repD_slice (rep_slice hx)
    split at h
    · rename_i e ht
      injection h with h; injection h with h1 h2; subst h1 h2
      refine ⟨_, ?_, .deep (.int _ _)⟩
      simp [Builtin.len_, run_underlying (elT_eq ht), goInt]
    · cases h
  · obtain ⟨a, cap, b, rfl, _⟩ := rep_own hx
    split at h
    · rename_i e ht
      injection h with h; injection h with h1 h2; subst h1 h2
      refine ⟨_, ?_, .deep (.int _ _)⟩
      simp [Builtin.len_, run_underlying (elT_eq ht), goInt]
    · cases h
  · split at h
    · rename_i n e ht
      injection h with h; injection h with h1 h2; subst h1 h2
      refine ⟨_, ?_, .deep (.int _ _)⟩
      simp [Builtin.len_, run_underlying (arrT_eq ht), goInt]
    · cases h

theorem apick_sound {c a b : AV} {ob : Prop} {r : AV} (h : apick c a b = some (ob, r)) {vc va vb : Value} (hc : Rep w X β H vc c) (ha : Rep w X β H va a) (hb : Rep w X β H vb b) :
    ∃ x : Bool, vc = .bool x ∧ Rep w X β H (if x then va else vb) r := by
  unfold apick at h
  split at h
  · rename_i x
    obtain rfl := rep_bool hc
    refine ⟨x, rfl, ?_⟩
    split at h
    · injection h with h; injection h with h1 h2; subst h1 h2
      obtain rfl := rep_bool ha
      obtain rfl := rep_bool hb
      cases x <;> exact .deep (.bool _)
    · injection h with h; injection h with h1 h2; subst h1 h2
      cases x <;> simpa
  · cases h

theorem amax_sound {as : List AV} {r : AV} (h : amax as = some r) {vs : List Value} (hl : vs.length = as.length) (hv : ∀ (j : Nat) (u : AV) (v : Value), as[j]? = some u → vs[j]? = some v → Rep w X β H v u) (ts : Array TypeId) (ty : TypeId) :
    ∃ u, (Builtin.max_ ts ty vs.toArray).run C.P w = .ok u w ∧ Rep w X β H u r := by
  unfold amax at h
  split at h
  · rename_i k a k' b
    match vs, hl with
    | [v1, v2], _ =>
      obtain rfl := rep_int (hv 0 _ _ rfl rfl)
      obtain rfl := rep_int (hv 1 _ _ rfl rfl)
      split at h
      · injection h with h; subst h
        refine ⟨_, ?_, .deep (.int _ _)⟩
        simp [Builtin.max_, Builtin.max2]
      · cases h
  · cases h

theorem amin_sound {as : List AV} {r : AV} (h : amin as = some r) {vs : List Value} (hl : vs.length = as.length) (hv : ∀ (j : Nat) (u : AV) (v : Value), as[j]? = some u → vs[j]? = some v → Rep w X β H v u) (ts : Array TypeId) (ty : TypeId) :
    ∃ u, (Builtin.min_ ts ty vs.toArray).run C.P w = .ok u w ∧ Rep w X β H u r := by
  unfold amin at h
  split at h
  · rename_i k a k' b
    match vs, hl with
    | [v1, v2], _ =>
      obtain rfl := rep_int (hv 0 _ _ rfl rfl)
      obtain rfl := rep_int (hv 1 _ _ rfl rfl)
      split at h
      · injection h with h; subst h
        refine ⟨_, ?_, .deep (.int _ _)⟩
        simp [Builtin.min_, Builtin.min2]
      · cases h
  · cases h

end
end Go.Proofs.YtankjfiaajpfoaaDoor
