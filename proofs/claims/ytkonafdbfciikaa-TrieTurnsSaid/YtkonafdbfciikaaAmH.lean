import Derived.Test.YtkonafdbfciikaaAmG
import Derived.Shelf.SlSortCmp.NoneTotal
/-
  The library's SortFunc at elements of one cell, on a block of the call's own. Own work; no program in sight.
-/
namespace Go.Proofs.Ytkonafdbfciikaa
open Go.RowKit Go.Shelf Go.Sort
set_option linter.unusedVariables false

theorem keeps_grow {w w' : World} (h : Keeps (fun _ => False) w w') : ∃ q os, w' = Go.Sort.grow (w.drewN q) os := by
  refine ⟨w'.drawn - w.drawn, w'.heap.extract w.heap.size w'.heap.size, ?_⟩
  have e : w.heap ++ w'.heap.extract w.heap.size w'.heap.size = w'.heap := by
    apply Array.ext_getElem?
    intro i
    rw [Array.getElem?_append]
    split
    · rename_i hi
      exact (h.block i hi id).symm
    · rename_i hi
      rw [Array.getElem?_extract]
      split
      · congr 1
        omega
      · rename_i h2
        rw [Array.getElem?_eq_none]
        simp only [Nat.min_self] at h2
        omega
  have h1 := h.os
  have h2 := h.tape
  have h3 := h.output
  have h4 := h.drawn
  obtain ⟨heap', tape', drawn', os', out'⟩ := w'
  obtain ⟨heap, tape, drawn, os, out⟩ := w
  simp only at h1 h2 h3 h4 e
  subst h1 h2 h3
  simp only [Go.Sort.grow, World.drewN, World.mk.injEq, and_true, true_and]
  exact ⟨e.symm, by omega⟩

def decRows {α : Type} [Enc α] (rows : List (List AV)) : List α := rows.map Enc.unc
@[simp] theorem decRows_enc {α : Type} [Enc α] (l : List α) : (decRows (encRows l) : List α) = l := by
  unfold decRows encRows
  simp only [List.map_map, Function.comp_def, Enc.unc_cells, List.map_id']

/-- Sorted by cf: where cf parts whatever two are not one, there is one such list. -/
def sortBy {α : Type} (cf : α → α → Int) (l : List α) : List α := l.mergeSort fun x y => !(ltOf cf y x)

def sortG {α : Type} [Enc α] (cmp : FuncId) (good : α → Prop) (cf : α → α → Int) : List AV → List Blk → Option (Prop × AV × List Blk)
  | [.own l n, .fn g []], H =>
    if g = cmp then
      match H[l]? with
      | some b => if b.mu = true ∧ b.deep = true ∧ b.sz = 1 then
          some (b.rows.length = n ∧ b.rows = encRows (decRows b.rows : List α) ∧ (∀ x ∈ (decRows b.rows : List α), good x) ∧ n < 4611686018427387904, .tup [], H.set l { b with rows := encRows (sortBy cf (decRows b.rows : List α)) })
        else none
      | none => none
    else none
  | _, _ => none

theorem rep_unit {w : World} {X : Nat → Prop} {β : List BI} {H : List Blk} : Rep w X β H (.tuple #[]) (.tup []) :=
  .tup #[] [] (fun _ => undef) rfl (fun j hj => absurd hj (Nat.not_lt_zero j)) (fun j v hj => by simp at hj)

theorem sorted_eq {α γ : Type} (cf : α → α → Int) (hO : SWO (ltOf cf)) (hT : ∀ x y, ltOf cf x y = false → ltOf cf y x = false → x = y) [Inhabited γ] (p : γ → α) (d d' : Array γ) (hp : PermIn 0 d.size d d') (hs : SortedIn (ltOf fun x y => cf (p x) (p y)) 0 d.size d') :
    d'.toList.map p = sortBy cf (d.toList.map p) := by
  obtain ⟨hsz, _, hperm⟩ := hp
  have e1 : d'.extract 0 d.size = d' := by rw [← hsz]; exact Array.extract_size
  rw [e1, Array.extract_size] at hperm
  unfold sortBy
  refine List.Perm.eq_of_pairwise (le := fun x y => (!ltOf cf y x) = true) ?_ ?_ ?_ ((hperm.map p).trans (List.mergeSort_perm _ _).symm)
  · intro a b _ _ h1 h2
    simp only [Bool.not_eq_true'] at h1 h2
    exact hT a b h2 h1
  · rw [List.pairwise_map, List.pairwise_iff_getElem]
    intro i j hi hj hij
    have hi' : i < d'.size := by simpa using hi
    have hj' : j < d'.size := by simpa using hj
    have := hs i j (Nat.zero_le _) hij (by omega)
    rw [getElem!_pos d' j hj', getElem!_pos d' i hi'] at this
    simpa [ltOf] using this
  · refine List.pairwise_mergeSort ?_ ?_ _
    · intro a b c h1 h2
      simp only [Bool.not_eq_true'] at h1 h2 ⊢
      exact hO.ntrans c b a h2 h1
    · intro a b
      cases h : ltOf cf b a with
      | false => simp
      | true => simp [hO.asymmA h]

theorem gen_sort1 {P : Program} {G : Nat → AV} {ρ : Ren} (L : SlLaysF.n6 P ρ) {f cmp : FuncId} (hf : ρ.f 6 = f) {α : Type} [Enc α] (hE : ∀ a : α, Enc.cells a = [Enc.enc a]) (hI : ∀ a : α, nrmV (Enc.enc a) = Enc.enc a) (good : α → Prop) (cf : α → α → Int)
    (hc : PureOK P G cmp (spec2 (fun a b => good a ∧ good b) fun a b => .int .i64 (cf a b))) (eg : ∀ args w, (callFunc cmp args).run P w = .ok (.enter cmp args) w) (hO : SWO (ltOf cf)) (hT : ∀ x y, ltOf cf x y = false → ltOf cf y x = false → x = y) : GenOK P G f (sortG cmp good cf) := by
  subst hf
  intro w X β H args avs ob r H' R hG hsz harg hg hob
  unfold sortG at hg
  split at hg
  case h_2 => cases hg
  rename_i l n g
  split at hg
  case isFalse => cases hg
  rename_i hgc
  subst hgc
  split at hg
  case h_2 => cases hg
  rename_i b hb
  split at hg
  case isFalse => cases hg
  rename_i hbb
  obtain ⟨hmu, hdeep, hz⟩ := hbb
  injection hg with hg; injection hg with e1 e2; injection e2 with e2 e3; subst e1 e2 e3
  obtain ⟨hn, hrows, hgood, hbig⟩ := hob
  obtain ⟨v0, ha0, h0⟩ := harg 0 (.own l n) rfl
  obtain ⟨v1, ha1, h1⟩ := harg 1 (.fn g []) rfl
  obtain ⟨a, cap, b', rfl, hb', hn', h00, hx⟩ := rep_own h0
  rw [hb] at hb'
  injection hb' with hb'
  subst hb'
  obtain ⟨vs, val, rfl, hl1, hm1, hv1⟩ := rep_fn h1
  have hvs : vs = #[] := Array.eq_empty_of_size_eq_zero (by simpa using hl1)
  subst hvs
  have hargs : args = #[.slice a n cap, .func (.func g) #[] #[]] := by
    apply Array.ext_getElem?
    intro i
    match i with
    | 0 => rw [ha0]; rfl
    | 1 => rw [ha1]; rfl
    | i + 2 =>
      rw [Array.getElem?_eq_none, Array.getElem?_eq_none]
      · simp
      · rw [hsz]; simp
  subst hargs
  generalize hxs : (decRows b.rows : List α) = xs at hrows hgood ⊢
  have hxl : xs.length = n := by rw [← hn, hrows]; simp
  rcases Nat.eq_zero_or_pos n with rfl | hpos
  · have hnil : xs = [] := List.length_eq_zero_iff.1 hxl
    refine (AnyF.slices_SortFunc_none { L with } a cap _ w).mono ?_
    rintro e w' ⟨rfl, rfl⟩
    have hse : H.set l { b with rows := encRows (sortBy cf xs) } = H := by
      have : ({ b with rows := encRows (sortBy cf xs) } : Blk) = b := by
        have h3 : b.rows = [] := by rw [hrows, hnil]; rfl
        rw [hnil]
        unfold sortBy
        rw [List.mergeSort_nil]
        cases b
        simp only at h3
        subst h3
        rfl
      rw [this]
      exact set_self hb
    rw [hse]
    exact ⟨_, β, rfl, R, StepR.refl _ _ _ R.len, rep_unit⟩
  have hx := hx hn
  cases hβ : β[l]? with
  | none => rw [hβ] at hx; exact hx.elim
  | some bi =>
    rw [hβ] at hx
    cases bi with
    | nil => exact absurd hx.1 (by omega)
    | lies bk c =>
      obtain ⟨rfl, rfl⟩ := hx
      obtain ⟨cur, k1, k2, k3, k4, k5, k6, k7⟩ := R.blk l _ b hβ hb
      rw [hz] at k2 k5 k6
      have hbkM : Mu X β H bk := .inr ⟨l, _, b, hβ, hb, hmu⟩
      have hbklt : bk < w.heap.size := (R.lt l bk _ hβ).1
      have hcell : ∀ i, i < n → ∃ p : { p : Value × α // p.1.oneCell' = true ∧ good p.2 ∧ RepD w (Mu X β H) p.1 (Enc.enc p.2) }, cur[i]? = some p.1.1 ∧ xs[i]? = some p.1.2 := by
        intro i hi
        have hxi : xs[i]? = some (xs[i]'(by omega)) := List.getElem?_eq_getElem _
        have hri : b.rows[i]? = some [Enc.enc (xs[i]'(by omega))] := by
          rw [hrows]
          unfold encRows
          rw [List.getElem?_map, hxi, Option.map_some, hE]
        obtain ⟨v, q1, q2, q3, q4⟩ := k7 i 0 _ _ hri rfl
        rw [hz, Nat.mul_one, Nat.add_zero] at q1
        exact ⟨⟨(v, xs[i]'(by omega)), q2, hgood _ (List.getElem_mem _), q4 hdeep⟩, q1, hxi⟩
      obtain ⟨p0, _⟩ := hcell 0 hpos
      letI : Inhabited { p : Value × α // p.1.oneCell' = true ∧ good p.2 ∧ RepD w (Mu X β H) p.1 (Enc.enc p.2) } := ⟨p0⟩
      obtain ⟨d, hd, hdd⟩ : ∃ d : Array { p : Value × α // p.1.oneCell' = true ∧ good p.2 ∧ RepD w (Mu X β H) p.1 (Enc.enc p.2) }, d.size = n ∧ ∀ i (hi : i < d.size), cur[i]? = some (d[i]).1.1 ∧ xs[i]? = some (d[i]).1.2 := by
        refine ⟨Array.ofFn fun i : Fin n => Classical.choose (hcell i.1 i.2), by simp, fun i hi => ?_⟩
        have hi' : i < n := by simpa using hi
        have := Classical.choose_spec (hcell i hi')
        simpa using this
      have hxsd : d.toList.map (fun p => p.1.2) = xs := by
        apply List.ext_getElem?
        intro i
        rw [List.getElem?_map, Array.getElem?_toList]
        rcases Nat.lt_or_ge i d.size with hi | hi
        · rw [Array.getElem?_eq_getElem hi, (hdd i hi).2]
          rfl
        · rw [Array.getElem?_eq_none hi, List.getElem?_eq_none (by omega)]
          rfl
      have hH : Holds (fun p : { p : Value × α // p.1.oneCell' = true ∧ good p.2 ∧ RepD w (Mu X β H) p.1 (Enc.enc p.2) } => p.1.1) w bk 0 d := by
        intro j hj
        rw [Nat.zero_add, cell_of_row w bk j cur b.e (0, 0) k1, (hdd j hj).1, getElem!_pos d j hj]
        refine ⟨rfl, ?_⟩
        unfold World.frozen?
        rw [k1]
        simp
      have hW : ∀ (m : Nat) (dk : Array { p : Value × α // p.1.oneCell' = true ∧ good p.2 ∧ RepD w (Mu X β H) p.1 (Enc.enc p.2) }) (os : Array Obj), (∀ k, k < w.heap.size → k ≠ bk → (sortWorld (fun p : { p : Value × α // p.1.oneCell' = true ∧ good p.2 ∧ RepD w (Mu X β H) p.1 (Enc.enc p.2) } => p.1.1) w bk 0 m dk os).heap[k]? = w.heap[k]?) ∧ w.heap.size ≤ (sortWorld (fun p : { p : Value × α // p.1.oneCell' = true ∧ good p.2 ∧ RepD w (Mu X β H) p.1 (Enc.enc p.2) } => p.1.1) w bk 0 m dk os).heap.size := by
        intro m dk os
        refine ⟨fun k hk hne => ?_, ?_⟩
        · show ((w.heap.modify bk _) ++ os)[k]? = _
          rw [Array.getElem?_append_left (by simpa using hk), Array.getElem?_modify, if_neg (fun h => hne h.symm)]
        · show _ ≤ ((w.heap.modify bk _) ++ os).size
          simp
      have hcmp : CmpLays1 P g #[] (fun p : { p : Value × α // p.1.oneCell' = true ∧ good p.2 ∧ RepD w (Mu X β H) p.1 (Enc.enc p.2) } => p.1.1) (fun x y => cf x.1.2 y.1.2) bk 0 d.size w := by
        intro m os dk hdk x y
        obtain ⟨hW1, hW2⟩ := hW m dk os
        have hkp : ∀ k, k < w.heap.size → ¬ Mu X β H k → (sortWorld (fun p : { p : Value × α // p.1.oneCell' = true ∧ good p.2 ∧ RepD w (Mu X β H) p.1 (Enc.enc p.2) } => p.1.1) w bk 0 m dk os).heap[k]? = w.heap[k]? := fun k hk hnm => hW1 k hk fun e => hnm (e ▸ hbkM)
        have hsp : spec2 (fun a b : α => good a ∧ good b) (fun a b => .int .i64 (cf a b)) [Enc.enc x.1.2, Enc.enc y.1.2] = some (nrmV (Enc.enc x.1.2) = Enc.enc x.1.2 ∧ nrmV (Enc.enc y.1.2) = Enc.enc y.1.2 ∧ good x.1.2 ∧ good y.1.2, .int .i64 (cf x.1.2 y.1.2)) := by simp only [spec2, Enc.dec_enc]
        refine (hc _ (Mu X β H) (#[x.1.1, y.1.1] ++ #[]) [Enc.enc x.1.2, Enc.enc y.1.2] _ _ (fun k hk => Nat.lt_of_lt_of_le (R.mu_lt k hk) hW2) (fun k => (hG k).keep hkp hW2 (fun _ _ h => h)) rfl (fun j u hj => ?_) hsp ⟨hI _, hI _, x.2.2.1, y.2.2.1⟩).mono ?_
        · match j with
          | 0 => simp at hj; subst hj; exact ⟨x.1.1, rfl, x.2.2.2.keep hkp hW2 (fun _ _ h => h)⟩
          | 1 => simp at hj; subst hj; exact ⟨y.1.1, rfl, y.2.2.2.keep hkp hW2 (fun _ _ h => h)⟩
          | j + 2 => simp at hj
        · rintro e w' ⟨v, he, hk, hr⟩
          cases hr
          exact ⟨he, keeps_grow hk⟩
      subst hd
      refine (Any.slices_SortFunc L (fun p : { p : Value × α // p.1.oneCell' = true ∧ good p.2 ∧ RepD w (Mu X β H) p.1 (Enc.enc p.2) } => p.1.1) (fun p => p.2.1) (fun x y => cf x.1.2 y.1.2) ⟨fun x => hO.irrefl x.1.2, fun x y z => hO.trans x.1.2 y.1.2 z.1.2, fun x y z => hO.ntrans x.1.2 y.1.2 z.1.2⟩ g #[] bk 0 cap d w eg hcmp hH hbklt (by omega)).mono ?_
      rintro e w' ⟨rfl, d', nn, os, hp, hs, rfl⟩
      obtain ⟨hW1, hW2⟩ := hW nn d' os
      have hsz' : d'.size = d.size := hp.1
      have hys := sorted_eq cf hO hT (fun p : { p : Value × α // p.1.oneCell' = true ∧ good p.2 ∧ RepD w (Mu X β H) p.1 (Enc.enc p.2) } => p.1.2) d d' hp hs
      rw [hxsd] at hys
      have hbi : β[l]? = some (BI.lies bk cap) := hβ
      have hlen2 : (encRows (sortBy cf xs)).length = d.size := by unfold sortBy; rw [encRows_length, List.length_mergeSort]; exact hxl
      have hK : Keeps (MutB β H) w (sortWorld (fun p : { p : Value × α // p.1.oneCell' = true ∧ good p.2 ∧ RepD w (Mu X β H) p.1 (Enc.enc p.2) } => p.1.1) w bk 0 nn d' os) :=
        ⟨rfl, rfl, rfl, hW2, fun k hk hnm => hW1 k hk fun e => hnm (e ▸ ⟨l, cap, b, hβ, hb, hmu⟩), Nat.le_add_right _ _⟩
      have S := set_step R hb hbi (.lies bk cap) { b with rows := encRows (sortBy cf xs) } rfl rfl (by rw [hlen2, hn]; exact Nat.le_refl _) (fun _ => rfl) id (fun bk' c' e => .inr ⟨c', e⟩) hK
      have hkp : ∀ k, k < w.heap.size → ¬ Mu X β H k → (sortWorld (fun p : { p : Value × α // p.1.oneCell' = true ∧ good p.2 ∧ RepD w (Mu X β H) p.1 (Enc.enc p.2) } => p.1.1) w bk 0 nn d' os).heap[k]? = w.heap[k]? := fun k hk hnm => hW1 k hk fun e => hnm (e ▸ hbkM)
      have R' := set_hrel R hb hbi (.lies bk cap) { b with rows := encRows (sortBy cf xs) } S (fun l' bk' c' hne h => hW1 bk' (R.lt l' bk' c' h).1 fun e => hne (R.inj l' l bk' c' cap h (e ▸ hβ))) (by
        refine ⟨putCells (fun p : { p : Value × α // p.1.oneCell' = true ∧ good p.2 ∧ RepD w (Mu X β H) p.1 (Enc.enc p.2) } => p.1.1) 0 d' cur, ?_, ?_, by rw [hlen2]; omega, k4, by rw [hz]; exact Nat.one_pos, fun r hr => ?_, fun i j r av hr hj => ?_⟩
        · show ((w.heap.modify bk _) ++ os)[bk]? = _
          rw [Array.getElem?_append_left (by simpa using hbklt), Array.getElem?_modify, if_pos rfl, k1]
          rfl
        · simp only [putCells, Array.size_mapIdx]
          rw [k2, hz]
        · unfold encRows at hr
          obtain ⟨x, _, rfl⟩ := List.mem_map.1 hr
          rw [hE, hz]
          rfl
        · unfold encRows at hr
          rw [List.getElem?_map, Option.map_eq_some_iff] at hr
          obtain ⟨x, hx', rfl⟩ := hr
          rw [hE] at hj
          have hi : i < d.size := by have := (List.getElem?_eq_some_iff.1 hx').1; unfold sortBy at this; rw [List.length_mergeSort] at this; omega
          match j with
          | j + 1 => simp at hj
          | 0 =>
            simp only [List.getElem?_cons_zero, Option.some.injEq] at hj
            subst hj
            rw [← hys, List.getElem?_map, Array.getElem?_toList, Array.getElem?_eq_getElem (by omega), Option.map_some] at hx'
            injection hx' with hx'
            subst hx'
            have hrep : RepD (sortWorld (fun p : { p : Value × α // p.1.oneCell' = true ∧ good p.2 ∧ RepD w (Mu X β H) p.1 (Enc.enc p.2) } => p.1.1) w bk 0 nn d' os) (Mu X (β.set l (.lies bk cap)) (H.set l { b with rows := encRows (sortBy cf xs) })) (d'[i]'(by omega)).1.1 (Enc.enc (d'[i]'(by omega)).1.2) :=
              (d'[i]'(by omega)).2.2.2.keep hkp hW2 (fun k hk h => S.mu k hk h)
            refine ⟨(d'[i]'(by omega)).1.1, ?_, (d'[i]'(by omega)).2.1, .deep hrep, fun _ => hrep⟩
            rw [hz, Nat.mul_one, Nat.add_zero]
            have hci : i < cur.size := by omega
            simp only [putCells, Array.getElem?_mapIdx, Array.getElem?_eq_getElem hci, Option.map_some, Nat.zero_le, true_and, Nat.zero_add, Nat.sub_zero]
            rw [if_pos (by omega), getElem!_pos d' i (by omega)])
        (fun bk' c' e => by injection e with e1 e2; subst e1; exact ⟨Nat.lt_of_lt_of_le hbklt hW2, (R.lt l bk _ hβ).2⟩) (fun bk' c' l' c'' e hne h => by injection e with e1 e2; subst e1; exact hne (R.inj l' l bk c'' cap h hβ))
      exact ⟨_, _, rfl, R', S, rep_unit⟩
end Go.Proofs.Ytkonafdbfciikaa
