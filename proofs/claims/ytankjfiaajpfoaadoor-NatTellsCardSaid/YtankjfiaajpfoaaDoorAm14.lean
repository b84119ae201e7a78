/-
  A store; an append. Own work; no program in sight.
-/
import Derived.Test.YtankjfiaajpfoaaDoorAm13
import Derived.Laws.OwnMore
namespace Go.Proofs.YtankjfiaajpfoaaDoor
open Go.RowKit

section
variable {C : Ctx} {w w' : World} {X : Nat → Prop} {β : List BI} {H : List Blk}

theorem mid_get (cur : Array Value) (vs : List Value) (o k : Nat) (h : o + vs.length ≤ cur.size) : ((cur.toList.take o ++ vs ++ cur.toList.drop (o + vs.length)).toArray)[k]? = if o ≤ k ∧ k < o + vs.length then vs[k - o]? else cur[k]? := by
  rw [List.getElem?_toArray]
  have hl : cur.toList.length = cur.size := by simp
  by_cases h1 : k < o
  · rw [if_neg (by omega), List.append_assoc, List.getElem?_append_left (by simp; omega), List.getElem?_take, if_pos h1]
    simp
  · by_cases h2 : k < o + vs.length
    · rw [if_pos ⟨by omega, h2⟩, List.getElem?_append_left (by simp; omega), List.getElem?_append_right (by simp; omega)]
      simp only [List.length_take, Nat.min_eq_left (show o ≤ cur.toList.length by omega)]
    · rw [if_neg (by omega), List.getElem?_append_right (by simp; omega), List.getElem?_drop]
      simp only [List.length_append, List.length_take, Nat.min_eq_left (show o ≤ cur.toList.length by omega)]
      rw [show o + vs.length + (k - (o + vs.length)) = k by omega]
      simp

theorem mid_size (cur : Array Value) (vs : List Value) (o : Nat) (h : o + vs.length ≤ cur.size) : ((cur.toList.take o ++ vs ++ cur.toList.drop (o + vs.length)).toArray).size = cur.size := by
  simp
  omega

theorem keeps_setRow (w : World) {M : Nat → Prop} {g : Nat} (hM : M g) (cs : Array Value) : Keeps M w (w.setRow g cs) :=
  ⟨rfl, rfl, rfl, by simp [World.setRow], fun b _ hn => setRow_other w g b cs (fun e => hn (e ▸ hM))⟩

theorem mul_row {i i' j sz : Nat} (hj : j < sz) (h : i ≠ i') : i' * sz + j < i * sz ∨ i * sz + sz ≤ i' * sz + j := by
  rcases Nat.lt_or_ge i' i with h1 | h1
  · left
    have := Nat.mul_le_mul_right sz (show i' + 1 ≤ i from h1)
    rw [Nat.add_mul] at this
    omega
  · right
    have := Nat.mul_le_mul_right sz (show i + 1 ≤ i' by omega)
    rw [Nat.add_mul] at this
    omega

theorem astore_sound (R : HRel w X β H) {t : TypeId} {p x : AV} {ob : Prop} {r : AV} {H' : List Blk} (h : astore C H t p x = some (ob, r, H')) (hob : ob) {vp vx : Value} (hp : Rep w (Mu X β H) β H vp p) (hx : Rep w (Mu X β H) β H vx x) :
    ∃ w' β', (Instr.storeAt t vp vx).run C.P w = .ok () w' ∧ HRel w' X β' H' ∧ StepR w β H w' β' H' ∧ r = .tup [] := by
  unfold astore at h
  split at h
  · rename_i l n sz i f
    split at h
    · rename_i b hb
      split at h
      · rename_i hmu
        obtain ⟨hmu, hz⟩ := hmu
        split at h
        · rename_i cs hcs
          injection h with h; injection h with e1 e2; injection e2 with e2 e3; subst e1 e2 e3
          obtain ⟨o1, o2, o3, o4⟩ := hob
          subst o2
          obtain ⟨ad, b', rfl, hb', hn, hq⟩ := rep_ptr hp
          rw [hb] at hb'; injection hb' with hb'; subst hb'
          obtain ⟨bk, cap, hβ, rfl⟩ := hq o1 rfl o3
          have hB := R.blk l _ b hβ hb
          obtain ⟨cur, h1, h2, h3, h4, h5, h6, h7⟩ := hB
          obtain ⟨c1, c2⟩ := cellsOf_sound hcs hx
          have hi : i < b.rows.length := by omega
          have hvl : vx.cells.toList.length = cs.length := by simpa using c1.1
          have hrow : b.rows[i].length = b.sz := h6 _ (List.getElem_mem hi)
          have hfit : i * b.sz + f + 0 + vx.cells.toList.length ≤ cur.size := by
            rw [h2, hvl]
            have := Nat.mul_le_mul_right b.sz (show i + 1 ≤ cap by omega)
            rw [Nat.add_mul] at this
            omega
          have hone : ∀ v ∈ vx.cells.toList, v.oneCell' = true := by
            intro v hv
            obtain ⟨j, hj, rfl⟩ := List.getElem_of_mem hv
            obtain ⟨v', q1, q2, _⟩ := c1.2 j _ (List.getElem?_eq_getElem (by omega))
            have : vx.cells[j]? = some (vx.cells.toList[j]) := by simp at hj ⊢
            rw [this] at q1
            injection q1 with q1
            rw [q1]; exact q2
          have hst := run_storeCells_at C.P bk (i * b.sz + f) b.e vx.cells.toList 0 cur w h1 hfit hone
          simp only [Nat.add_zero] at hst hfit
          obtain ⟨cur', hcur', hget, hsize⟩ : ∃ cur', cur' = (cur.toList.take (i * b.sz + f) ++ vx.cells.toList ++ cur.toList.drop (i * b.sz + f + vx.cells.toList.length)).toArray ∧
              (∀ k : Nat, cur'[k]? = if i * b.sz + f ≤ k ∧ k < i * b.sz + f + cs.length then vx.cells.toList[k - (i * b.sz + f)]? else cur[k]?) ∧ cur'.size = cur.size :=
            ⟨_, rfl, fun k => by rw [mid_get _ _ _ _ hfit, hvl], mid_size _ _ _ hfit⟩
          rw [← hcur'] at hst
          clear hcur'
          have hM : MutB β H bk := ⟨l, cap, b, hβ, hb, hmu⟩
          have S := set_step (w := w) R hb hβ (.lies bk cap) { b with rows := b.rows.set i (splice (rowAt b.rows i) f cs), deep := b.deep && cs.all AV.isDeep } rfl rfl (by simp) (fun _ => rfl) (fun h => h)
            (fun bk' c e => .inr ⟨c, e⟩) (keeps_setRow w hM cur')
          refine ⟨_, β.set l (.lies bk cap), ?_, set_hrel R hb hβ _ _ S (fun l' bk' c hl hb' => setRow_other w bk bk' _ (fun e => hl (R.inj l' l bk' c cap hb' (e ▸ hβ)))) ?_ (fun bk' c e => ?_) (fun bk' c l' c' e hl hb' => ?_), S, rfl⟩
          · have hsz : vx.cells.size = szT C.P t := by rw [c1.1, c2]
            simp [Instr.storeAt, Instr.sureAddr, storeVar, run_sizeOf (Nat.pos_of_ne_zero hz), hsz, hst]
          · refine ⟨_, setRow_heap w bk cur _ b.e (0, 0) h1, by rw [hsize, h2], by simp; omega, h4, h5, fun r hr => ?_, fun i' j r av hr hj => ?_⟩
            · rcases List.mem_or_eq_of_mem_set hr with hr | rfl
              · exact h6 r hr
              · rw [rowAt_get hi, splice_length _ _ _ (by omega), hrow]
            · simp only [hget]
              by_cases e : i = i'
              · subst e
                rw [List.getElem?_set_self hi] at hr
                injection hr with hr
                subst hr
                rw [rowAt_get hi, splice_get _ _ _ _ (by omega)] at hj
                by_cases hc : f ≤ j ∧ j < f + cs.length
                · rw [if_pos hc] at hj
                  rw [if_pos (by omega), show i * b.sz + j - (i * b.sz + f) = j - f by omega]
                  obtain ⟨v, q1, q2, q3⟩ := c1.2 _ av hj
                  refine ⟨v, by simpa using q1, q2, q3.keep S, fun hd => ?_⟩
                  simp only [Bool.and_eq_true] at hd
                  exact rep_deep (List.all_eq_true.1 hd.2 av (List.mem_of_getElem? hj)) (q3.keep S)
                · rw [if_neg hc] at hj
                  rw [if_neg (by omega)]
                  obtain ⟨v, q1, q2, q3, q4⟩ := h7 i j _ av (List.getElem?_eq_getElem hi) hj
                  refine ⟨v, q1, q2, q3.keep S, fun hd => ?_⟩
                  simp only [Bool.and_eq_true] at hd
                  exact (q4 hd.1).keep (fun b hb hn => S.keeps.block b hb (fun hm => hn (.inr hm))) S.keeps.size (fun b hb => S.mu b hb)
              · rw [List.getElem?_set_ne e] at hr
                have hi' := (List.getElem?_eq_some_iff.1 hr).1
                have hjl : j < b.sz := by
                  have := (List.getElem?_eq_some_iff.1 hj).1
                  rw [h6 r (List.mem_of_getElem? hr)] at this
                  exact this
                have := mul_row (i := i) (i' := i') hjl e
                rw [if_neg (by omega)]
                obtain ⟨v, q1, q2, q3, q4⟩ := h7 i' j r av hr hj
                refine ⟨v, q1, q2, q3.keep S, fun hd => ?_⟩
                simp only [Bool.and_eq_true] at hd
                exact (q4 hd.1).keep (fun b hb hn => S.keeps.block b hb (fun hm => hn (.inr hm))) S.keeps.size (fun b hb => S.mu b hb)
          · injection e with e1 e2
            subst e1
            exact ⟨Nat.lt_of_lt_of_le (R.lt l bk cap hβ).1 S.keeps.size, (R.lt l bk cap hβ).2⟩
          · injection e with e1 e2
            subst e1
            exact hl (R.inj l' l bk c' cap hb' hβ)
        · cases h
      · cases h
    · cases h
  · cases h

/-- n rows of sz cells at an address. -/
def RowsAt (w : World) (a : Option Addr) (n sz : Nat) (val : Nat → Nat → Value) : Prop :=
  n ≠ 0 → ∃ b off, a = some ⟨b, off, none⟩ ∧ ∀ i j, i < n → j < sz → w.cell? ⟨b, off + i * sz + j, none⟩ = some (val i j) ∧ (val i j).oneCell' = true

def flatV (val : Nat → Nat → Value) (n sz : Nat) : List Value := (List.range (n * sz)).map fun k => val (k / sz) (k % sz)

theorem flatV_length (val : Nat → Nat → Value) (n sz : Nat) : (flatV val n sz).length = n * sz := by simp [flatV]
theorem flatV_get (val : Nat → Nat → Value) (n sz i j : Nat) (hi : i < n) (hj : j < sz) : (flatV val n sz)[i * sz + j]? = some (val i j) := by
  have hlt : i * sz + j < n * sz := by
    have := Nat.mul_le_mul_right sz (show i + 1 ≤ n from hi)
    rw [Nat.add_mul] at this
    omega
  have h1 : (i * sz + j) / sz = i := by
    rw [Nat.add_comm, Nat.add_mul_div_right _ _ (by omega), Nat.div_eq_of_lt hj, Nat.zero_add]
  have h2 : (i * sz + j) % sz = j := by rw [Nat.add_comm, Nat.add_mul_mod_self_right, Nat.mod_eq_of_lt hj]
  simp [flatV, hlt, h1, h2]

theorem flatV_mem {w : World} {n sz : Nat} {val : Nat → Nat → Value} {b off : Nat} (h : ∀ i j, i < n → j < sz → w.cell? ⟨b, off + i * sz + j, none⟩ = some (val i j) ∧ (val i j).oneCell' = true) {j : Nat} {v : Value} (hj : (flatV val n sz)[j]? = some v) :
    w.cell? ((⟨b, off, none⟩ : Addr).add j) = some v ∧ v.oneCell' = true := by
  have hlt := (List.getElem?_eq_some_iff.1 hj).1
  rw [flatV_length] at hlt
  have hsz : 0 < sz := by
    rcases Nat.eq_zero_or_pos sz with h | h
    · rw [h] at hlt; simp at hlt
    · exact h
  have hdiv : j / sz < n := Nat.div_lt_of_lt_mul (by rw [Nat.mul_comm]; exact hlt)
  have hmod := Nat.mod_lt j hsz
  have e : j = j / sz * sz + j % sz := by rw [Nat.mul_comm]; exact (Nat.div_add_mod j sz).symm
  have h1 := flatV_get val n sz (j / sz) (j % sz) hdiv hmod
  rw [← e, hj] at h1
  injection h1 with h1
  subst h1
  have h2 := h (j / sz) (j % sz) hdiv hmod
  rw [add_eq]
  rw [show off + j / sz * sz + j % sz = off + j by omega] at h2
  exact h2

theorem append_grow {P : Program} {t ty e : TypeId} (he : elT P t = some e) {z : List AV} (hz : zT P e = some z) {n cap m c : Nat} {a xa : Option Addr} (val xval : Nat → Nat → Value) (ha : RowsAt w a n (szT P e) val) (hx : RowsAt w xa m (szT P e) xval)
    (hm : m ≠ 0) (hcap : cap < n + m) (hb : (n + m) * byT P e ≤ 140737488355328) (hlen : n + m < 1000000000000) (hnone : a = none → n = 0 ∧ cap = 0) :
    ∃ cap' cur, (Builtin.append_ #[t, t] ty #[.slice a n cap, .slice xa m c]).run P w = .ok (.slice (some ⟨w.heap.size, 0, none⟩) (n + m) cap') (w.drew.alloc (.cells cur e)) ∧ cur.size = cap' * szT P e ∧ n + m ≤ cap' ∧ cap' ≤ maxLen ∧
      ∀ i j, i < n + m → j < szT P e → cur[i * szT P e + j]? = some (if i < n then val i j else xval (i - n) j) := by
  obtain ⟨i, zv, z1, z2, z3, z4, z5, z6, z7⟩ := zT_sound hz
  have hby : byT P e = i.bytes := by simp [byT, z1]
  rw [hby] at hb
  have hsz : i.size = szT P e := by rw [z3, z5]
  obtain ⟨xb, xoff, rfl, hxc⟩ := hx hm
  have hml : n + m ≤ maxLen := by unfold maxLen; omega
  have get : ∀ (cs : Array Value) (cap' : Nat) (rest : Array Value), cs = (flatV val n (szT P e)).toArray ++ (flatV xval m (szT P e)).toArray ++ rest → ∀ i j, i < n + m → j < szT P e → cs[i * szT P e + j]? = some (if i < n then val i j else xval (i - n) j) := by
    intro cs cap' rest hcs i j hi hj
    subst hcs
    have hlt : i * szT P e + j < (n + m) * szT P e := by
      have := Nat.mul_le_mul_right (szT P e) (show i + 1 ≤ n + m from hi)
      rw [Nat.add_mul] at this
      omega
    rw [Array.getElem?_append_left (by simp [flatV_length, ← Nat.add_mul]; exact hlt)]
    by_cases hin : i < n
    · have hlt2 : i * szT P e + j < n * szT P e := by
        have := Nat.mul_le_mul_right (szT P e) (show i + 1 ≤ n from hin)
        rw [Nat.add_mul] at this
        omega
      rw [Array.getElem?_append_left (by simp [flatV_length]; exact hlt2), List.getElem?_toArray, flatV_get _ _ _ _ _ hin hj, if_pos hin]
    · have hge : n * szT P e ≤ i * szT P e := Nat.mul_le_mul_right _ (by omega)
      rw [Array.getElem?_append_right (by simp [flatV_length]; omega), List.getElem?_toArray, if_neg hin]
      simp only [List.size_toArray, flatV_length]
      rw [show i * szT P e + j - n * szT P e = (i - n) * szT P e + j by rw [Nat.sub_mul]; omega]
      exact flatV_get _ _ _ _ _ (by omega) hj
  have hge := grownCap_ge w (n + m) cap e
  have hle := grownCap_le_maxLen w (n + m) cap e hml
  cases a with
  | none =>
    obtain ⟨rfl, rfl⟩ := hnone rfl
    have hr := run_append_nil (P := P) w t ty e i zv (elT_eq he) z1 z2 ⟨xb, xoff, none⟩ m c (flatV xval m (szT P e)) (by rw [flatV_length, hsz]) (fun j v hj => (flatV_mem hxc hj).1) (by omega) (by omega) (by rw [Nat.zero_add] at hb; omega)
    simp only [Nat.zero_add] at hge hle ⊢
    refine ⟨_, _, hr, ?_, hge, hle, ?_⟩
    · simp [size_zeroCells, flatV_length, z6, ← z5, ← Nat.add_mul]
      congr 1
      omega
    · intro i j hi hj
      have h0 : flatV val 0 (szT P e) = [] := by simp [flatV]
      have := get ((flatV val 0 (szT P e)).toArray ++ (flatV xval m (szT P e)).toArray ++ Builtin.zeroCells zv.cells (grownCap w m 0 e - m)) 0 _ rfl i j (by omega) hj
      rw [h0] at this
      simpa using this
  | some ad =>
    have holds : ∀ (j : Nat) (v : Value), (flatV val n (szT P e))[j]? = some v → w.cell? (ad.add j) = some v := by
      intro j v hj
      by_cases hn : n = 0
      · subst hn; simp [flatV] at hj
      · obtain ⟨b, off, e1, hc⟩ := ha hn
        injection e1 with e1
        subst e1
        exact (flatV_mem hc hj).1
    have hr := run_append_grow (P := P) w t ty e i zv (elT_eq he) z1 z2 ad n cap (flatV val n (szT P e)) (by rw [flatV_length, hsz]) holds ⟨xb, xoff, none⟩ m c (flatV xval m (szT P e)) (by rw [flatV_length, hsz]) (fun j v hj => (flatV_mem hxc hj).1) hcap (by omega) (growslice_fits hcap hb)
    refine ⟨_, _, hr, ?_, hge, hle, fun i j hi hj => get _ 0 _ rfl i j hi hj⟩
    simp [size_zeroCells, flatV_length, z6, ← z5, ← Nat.add_mul]
    congr 1
    omega

theorem append_zero {P : Program} {t ty e : TypeId} (he : elT P t = some e) (hz : 0 < szT P e) {n cap c : Nat} {a xa : Option Addr} (hn : n ≤ cap) : (Builtin.append_ #[t, t] ty #[.slice a n cap, .slice xa 0 c]).run P w = .ok (.slice a n cap) w := by
  have h1 : (Builtin.firstCells (szT P e) 0 (.slice xa 0 c)).run P w = .ok #[] w := by
    cases xa with
    | none => simp [Builtin.firstCells]
    | some x => simp [Builtin.firstCells, loadCells, loadCellsFrom]
  cases a with
  | none => simp [Builtin.append_, run_underlying (elT_eq he), run_sizeOf hz, Builtin.lenOf, hn, h1]
  | some ad => simp [Builtin.append_, run_underlying (elT_eq he), run_sizeOf hz, Builtin.lenOf, hn, h1, storeCells]

end
end Go.Proofs.YtankjfiaajpfoaaDoor
