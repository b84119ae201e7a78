import Derived.Test.YtpbgnnaaobamfaaAmG
import Derived.Shelf.SortM.Plain
import Derived.Shelf.SortM.SortNone
import Derived.Shelf.GgSortFunc.Insertion
/-
  The library's Sort at ints, on a block of the call's own. Own work; no program in sight.
-/
namespace Go.Proofs.Ytpbgnnaaobamfaa
open Go.RowKit Go.Shelf Go.Sort
set_option linter.unusedVariables false

def decI (rows : List (List AV)) : List Int := rows.map Enc.unc
@[simp] theorem decI_enc (l : List Int) : decI (encRows l) = l := by
  unfold decI encRows
  simp only [List.map_map, Function.comp_def, Enc.unc_cells, List.map_id']
def sortI (l : List Int) : List Int := l.mergeSort fun x y => decide (x ≤ y)
def sortIG : List AV → List Blk → Option (Prop × AV × List Blk)
  | [.own l n], H =>
    match H[l]? with
    | some b => if b.mu = true ∧ b.deep = true ∧ b.sz = 1 then
        some (b.rows.length = n ∧ b.rows = encRows (decI b.rows) ∧ n < 4611686018427387904, .tup [], H.set l { b with rows := encRows (sortI (decI b.rows)) })
      else none
    | none => none
  | _, _ => none
theorem sortI_len (l : List Int) : (sortI l).length = l.length := by unfold sortI; rw [List.length_mergeSort]
theorem gen_sortI {P : Program} {G : Nat → AV} {ρ : Ren} (L : SlLaysM.n5 P ρ) {f : FuncId} (hf : ρ.f 5 = f) : GenOK P G f sortIG := by
  subst hf
  intro w X β H args avs ob r H' R hG hsz harg hg hob
  unfold sortIG at hg
  split at hg
  case h_2 => cases hg
  rename_i l n
  split at hg
  case h_2 => cases hg
  rename_i b hb
  split at hg
  case isFalse => cases hg
  rename_i hbb
  obtain ⟨hmu, hdeep, hz⟩ := hbb
  injection hg with hg; injection hg with e1 e2; injection e2 with e2 e3; subst e1 e2 e3
  obtain ⟨hn, hrows, hbig⟩ := hob
  obtain ⟨v0, ha0, h0⟩ := harg 0 (.own l n) rfl
  obtain ⟨a, cap, b', rfl, hb', hn', h00, hx⟩ := rep_own h0
  rw [hb] at hb'
  injection hb' with hb'
  subst hb'
  have hargs : args = #[.slice a n cap] := by
    apply Array.ext_getElem?
    intro i
    match i with
    | 0 => rw [ha0]; rfl
    | i + 1 =>
      rw [Array.getElem?_eq_none, Array.getElem?_eq_none]
      · simp
      · rw [hsz]; simp
  subst hargs
  generalize hxs : decI b.rows = xs at hrows ⊢
  have hxl : xs.length = n := by rw [← hn, hrows]; simp
  rcases Nat.eq_zero_or_pos n with rfl | hpos
  · have hnil : xs = [] := List.length_eq_zero_iff.1 hxl
    refine (Go.Proofs.AnyM.slices_Sort_int_none { L with } a cap w).mono ?_
    rintro e w' ⟨rfl, rfl⟩
    have hse : H.set l { b with rows := encRows (sortI xs) } = H := by
      have : ({ b with rows := encRows (sortI xs) } : Blk) = b := by
        have h3 : b.rows = [] := by rw [hrows, hnil]; rfl
        rw [hnil]
        unfold sortI
        rw [List.mergeSort_nil]
        cases b
        simp only at h3
        subst h3
        rfl
      rw [this]
      exact set_self hb
    rw [hse]
    exact ⟨_, β, rfl, R, StepR.refl _ _ _ R.len, .tup #[] [] (fun _ => undef) rfl (fun j hj => absurd hj (Nat.not_lt_zero j)) (fun j v hj => by simp at hj)⟩
  have hx := hx hn
  cases hβ : β[l]? with
  | none => rw [hβ] at hx; exact hx.elim
  | some bi =>
    rw [hβ] at hx
    cases bi with
    | nil => exact absurd hx.1 (by omega)
    | lies bk c =>
      obtain ⟨rfl, rfl⟩ := hx
      obtain ⟨cur, k1, k2, k3, k4, k5, k6, k7⟩ := R.blk l _ b hβ hb
      rw [hz] at k2 k5 k6
      have hbkM : Mu X β H bk := .inr ⟨l, _, b, hβ, hb, hmu⟩
      have hbklt : bk < w.heap.size := (R.lt l bk _ hβ).1
      have hcell : ∀ i (hi : i < xs.length), cur[i]? = some (.int .i64 xs[i]) := by
        intro i hi
        have hri : b.rows[i]? = some [.int .i64 xs[i]] := by
          rw [hrows]
          unfold encRows
          rw [List.getElem?_map, List.getElem?_eq_getElem hi]
          rfl
        obtain ⟨v, q1, q2, q3, q4⟩ := k7 i 0 _ _ hri rfl
        rw [hz, Nat.mul_one, Nat.add_zero] at q1
        have q5 := q4 hdeep
        cases q5
        exact q1
      have hH : Holds (Value.int .i64) w bk 0 xs.toArray := by
        intro j hj
        have hj' : j < xs.length := by simpa using hj
        rw [Nat.zero_add, cell_of_row w bk j cur b.e (0, 0) k1, hcell j hj', getElem!_pos xs.toArray j hj]
        refine ⟨by simp, ?_⟩
        unfold World.frozen?
        rw [k1]
        simp
      have hW : ∀ (m : Nat) (dk : Array Int) (os : Array Obj), (∀ k, k < w.heap.size → k ≠ bk → (sortWorld (Value.int .i64) w bk 0 m dk os).heap[k]? = w.heap[k]?) ∧ w.heap.size ≤ (sortWorld (Value.int .i64) w bk 0 m dk os).heap.size := by
        intro m dk os
        refine ⟨fun k hk hne => ?_, ?_⟩
        · show ((w.heap.modify bk _) ++ os)[k]? = _
          rw [Array.getElem?_append_left (by simpa using hk), Array.getElem?_modify, if_neg (fun h => hne h.symm)]
        · show _ ≤ ((w.heap.modify bk _) ++ os).size
          simp
      have := Go.Proofs.AnyM.slices_Sort_int L bk 0 cap xs w hH hbklt (by omega)
      rw [hxl] at this
      refine this.mono ?_
      rintro e w' ⟨rfl, nn, os, rfl⟩
      obtain ⟨d', hd'⟩ : ∃ d' : Array Int, d' = (sortI xs).toArray := ⟨_, rfl⟩
      have hww : grow (putRow (Value.int .i64) (Sort.ahead w nn) bk 0 (xs.mergeSort fun x y => decide (x ≤ y)).toArray) os = sortWorld (Value.int .i64) w bk 0 nn d' os := by rw [hd']; rfl
      rw [hww]
      obtain ⟨hW1, hW2⟩ := hW nn d' os
      have hbi : β[l]? = some (BI.lies bk cap) := hβ
      have hlen2 : (encRows (sortI xs)).length = n := by rw [encRows_length, sortI_len]; exact hxl
      have hK : Keeps (MutB β H) w (sortWorld (Value.int .i64) w bk 0 nn d' os) :=
        ⟨rfl, rfl, rfl, hW2, fun k hk hnm => hW1 k hk fun e => hnm (e ▸ ⟨l, cap, b, hβ, hb, hmu⟩), Nat.le_add_right _ _⟩
      have S := set_step R hb hbi (.lies bk cap) { b with rows := encRows (sortI xs) } rfl rfl (by rw [hlen2, hn]; exact Nat.le_refl _) (fun _ => rfl) id (fun bk' c' e => .inr ⟨c', e⟩) hK
      have R' := set_hrel R hb hbi (.lies bk cap) { b with rows := encRows (sortI xs) } S (fun l' bk' c' hne h => hW1 bk' (R.lt l' bk' c' h).1 fun e => hne (R.inj l' l bk' c' cap h (e ▸ hβ))) (by
        refine ⟨putCells (Value.int .i64) 0 d' cur, ?_, ?_, by rw [hlen2]; omega, k4, by rw [hz]; exact Nat.one_pos, fun r hr => ?_, fun i j r av hr hj => ?_⟩
        · show ((w.heap.modify bk _) ++ os)[bk]? = _
          rw [Array.getElem?_append_left (by simpa using hbklt), Array.getElem?_modify, if_pos rfl, k1]
          rfl
        · simp only [putCells, Array.size_mapIdx]
          rw [k2, hz]
        · unfold encRows at hr
          obtain ⟨x, _, rfl⟩ := List.mem_map.1 hr
          rw [hz]
          rfl
        · unfold encRows at hr
          rw [List.getElem?_map, Option.map_eq_some_iff] at hr
          obtain ⟨x, hx', rfl⟩ := hr
          have hi : i < (sortI xs).length := (List.getElem?_eq_some_iff.1 hx').1
          have hxe : x = (sortI xs)[i] := ((List.getElem?_eq_some_iff.1 hx').2).symm
          have hi2 : i < xs.length := by rw [← sortI_len]; exact hi
          match j with
          | j + 1 => simp at hj
          | 0 =>
            have hj : some (AV.int .i64 x) = some av := hj
            injection hj with hj
            subst hj
            refine ⟨.int .i64 x, ?_, rfl, .deep (.int .i64 x), fun _ => .int .i64 x⟩
            rw [hz, Nat.mul_one, Nat.add_zero]
            have hci : i < cur.size := by omega
            have hds : d'.size = (sortI xs).length := by rw [hd']; simp
            simp only [putCells, Array.getElem?_mapIdx, Array.getElem?_eq_getElem hci, Option.map_some, Nat.zero_le, true_and, Nat.zero_add, Nat.sub_zero]
            rw [if_pos (by omega), getElem!_pos d' i (by omega)]
            simp only [hd', hxe]
            simp)
        (fun bk' c' e => by injection e with e1 e2; subst e1; exact ⟨Nat.lt_of_lt_of_le hbklt hW2, (R.lt l bk _ hβ).2⟩) (fun bk' c' l' c'' e hne h => by injection e with e1 e2; subst e1; exact hne (R.inj l' l _ c'' cap h hβ))
      exact ⟨_, _, rfl, R', S, .tup #[] [] (fun _ => undef) rfl (fun j hj => absurd hj (Nat.not_lt_zero j)) (fun j v hj => by simp at hj)⟩
end Go.Proofs.Ytpbgnnaaobamfaa
