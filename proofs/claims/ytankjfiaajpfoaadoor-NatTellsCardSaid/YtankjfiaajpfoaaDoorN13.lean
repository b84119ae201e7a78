/-
  nat: the program's Text.
-/
import Derived.Test.YtankjfiaajpfoaaDoorN12
import Derived.Test.YtankjfiaajpfoaaDoorShelf
import Derived.Test.YtankjfiaajpfoaaDoorBuilder
import Derived.Lib.ItoaMem
import Derived.Lib.QuietBelow
import Derived.WalkLawsBesides
import Derived.Deep.QuietTactic
import Derived.BigQuiet
namespace Go.Proofs.YtankjfiaajpfoaaDoor
open Go.RowKit
set_option linter.unusedSimpArgs false
set_option linter.unusedVariables false

theorem PureOK.anyG {P : Program} {G : Nat → AV} {f : FuncId} {p : List AV → Option (Prop × AV)} (h : PureOK P G0 f p) : PureOK P G f p :=
  fun w X args avs ob r hX _ hsz harg hp hob => h w X args avs ob r hX (fun _ => .undef _) hsz harg hp hob

/-! ### Digits of a number with one limb more -/
theorem pad_low (v l : Nat) : ∀ j, j ≤ 9 → padS (l + 10 ^ 9 * v) j = padS l j
  | 0, _ => rfl
  | j + 1, h => by
    rw [padS, padS, pad_low v l j (by omega)]
    congr 1
    have e : (l + 10 ^ 9 * v) / 10 ^ j % 10 = l / 10 ^ j % 10 := by
      have e3 : (10 : Nat) ^ 9 = 10 ^ j * (10 * 10 ^ (8 - j)) := by
        rw [← Nat.pow_succ', ← Nat.pow_add, show j + (8 - j + 1) = 9 by omega]
      rw [e3, Nat.mul_assoc, Nat.add_mul_div_left _ _ (Nat.pow_pos (by decide)), Nat.mul_assoc, Nat.add_mul_mod_self_left]
    unfold dg1
    rw [e]
theorem pad_high (v l : Nat) (h : l < 10 ^ 9) : ∀ m, padS (l + 10 ^ 9 * v) (m + 9) = padS v m ++ padS l 9
  | 0 => by rw [Nat.zero_add, pad_low v l 9 (Nat.le_refl _)]; rfl
  | m + 1 => by
    have e : padS (l + 10 ^ 9 * v) (m + 1 + 9) = dg1 ((l + 10 ^ 9 * v) / 10 ^ (m + 9)) :: padS (l + 10 ^ 9 * v) (m + 9) := by rw [show m + 1 + 9 = (m + 9) + 1 by omega]; rfl
    rw [e, pad_high v l h m, show padS v (m + 1) = dg1 (v / 10 ^ m) :: padS v m from rfl, List.cons_append]
    congr 1
    rw [Nat.pow_add, Nat.mul_comm (10 ^ m), ← Nat.div_div_eq_div_mul, Nat.add_mul_div_left _ _ (Nat.pow_pos (by decide)), Nat.div_eq_of_lt h, Nat.zero_add]
theorem pad_more {l k : Nat} (h : l < 10 ^ k) : ∀ r, padS l (k + r) = List.replicate r 48 ++ padS l k
  | 0 => rfl
  | r + 1 => by
    rw [← Nat.add_assoc, padS, pad_more h r, List.replicate_succ, List.cons_append]
    congr 1
    have : l < 10 ^ (k + r) := Nat.lt_of_lt_of_le h (Nat.pow_le_pow_right (by decide) (by omega))
    rw [Nat.div_eq_of_lt this]
    rfl
theorem digits_ex : ∀ (n : Nat), ∃ k, (k = 0 ∨ 10 ^ k ≤ n) ∧ n < 10 ^ (k + 1) := by
  intro n
  induction n using Nat.strongRecOn with
  | _ n ih =>
    by_cases h : n < 10
    · exact ⟨0, .inl rfl, by simpa using h⟩
    · obtain ⟨k, h1, h2⟩ := ih (n / 10) (by omega)
      refine ⟨k + 1, .inr ?_, ?_⟩
      · rw [Nat.pow_succ]
        rcases h1 with h1 | h1
        · subst h1; simp; omega
        · exact (Nat.le_div_iff_mul_le (by decide)).1 h1
      · rw [Nat.pow_succ]
        generalize 10 ^ (k + 1) = T at *
        omega
theorem pow_split (a b : Nat) : (10 : Nat) ^ (a + b) = 10 ^ b * 10 ^ a := by rw [Nat.pow_add, Nat.mul_comm]
/-- The limb's digits, filled up with noughts. -/
theorem pad_text {l : Nat} (h : l < 10 ^ 9) : (textN l).length ≤ 9 ∧ padS l 9 = List.replicate (9 - (textN l).length) 48 ++ textN l := by
  obtain ⟨k, h1, h2⟩ := digits_ex l
  rw [← padS_eq k l h1 h2, padS_len]
  have hk : k + 1 ≤ 9 := by
    rcases h1 with h1 | h1
    · omega
    · rcases Nat.lt_or_ge k 9 with h9 | h9
      · omega
      · have := Nat.pow_le_pow_right (show 0 < 10 by decide) h9
        generalize 10 ^ 9 = T at *
        omega
  refine ⟨hk, ?_⟩
  have := pad_more h2 (9 - (k + 1))
  rwa [show k + 1 + (9 - (k + 1)) = 9 by omega] at this
theorem text_step {v l : Nat} (hv : v ≠ 0) (h : l < 10 ^ 9) : textN (l + 10 ^ 9 * v) = textN v ++ padS l 9 := by
  obtain ⟨k, h1, h2⟩ := digits_ex v
  have hk : 10 ^ k ≤ v := by
    rcases h1 with h1 | h1
    · subst h1; simp; omega
    · exact h1
  rw [← padS_eq k v h1 h2, ← pad_high v l h (k + 1)]
  have e : k + 1 + 9 = (k + 9) + 1 := by omega
  rw [e]
  refine (padS_eq (k + 9) _ (.inr ?_) ?_).symm
  · rw [pow_split]
    have := Nat.mul_le_mul_left (10 ^ 9) hk
    generalize 10 ^ 9 = T at *
    omega
  · rw [show k + 9 + 1 = (k + 1) + 9 by omega, pow_split]
    have h3 : v + 1 ≤ 10 ^ (k + 1) := h2
    have := Nat.mul_le_mul_left (10 ^ 9) h3
    rw [Nat.mul_add, Nat.mul_one] at this
    generalize 10 ^ 9 = T at *
    omega
theorem text_drop {x : List Int} (hx : Good x) (hn : Norm x) {j : Nat} (h : j + 1 < x.length) : textN (val (x.drop j)) = textN (val (x.drop (j + 1))) ++ padS (ix x j).toNat 9 := by
  have hj : j < x.length := by omega
  have h1 := ix_good hx hj
  rw [drop_eq hj, val, show B9 = 10 ^ 9 from rfl]
  refine text_step ?_ ?_
  · refine val_pos (fun y hy => hx y (List.mem_of_mem_drop hy)) ?_ (fun h0 => ?_)
    · intro h0
      have := hn (fun e => by subst e; simp at h)
      unfold ix at this ⊢
      rw [List.getD_eq_getElem?_getD, List.getElem?_drop, List.length_drop, show j + 1 + (x.length - (j + 1) - 1) = x.length - 1 by omega]
      rwa [List.getD_eq_getElem?_getD] at this
    · have := congrArg List.length h0
      simp at this
      omega
  · have : (10 : Nat) ^ 9 = 1000000000 := rfl
    omega
theorem text_top {x : List Int} (h : 0 < x.length) : val (x.drop (x.length - 1)) = (ix x (x.length - 1)).toNat := by
  rw [drop_eq (by omega), Nat.sub_add_cancel h, List.drop_length]
  simp [val]

theorem itoa_text {z : Int} (h : 0 ≤ z) : Lib.itoa z = textN z.toNat := by
  unfold Lib.itoa
  rw [if_neg (by omega)]
  rfl
theorem str_cells (l : List UInt8) : Lib.strCells (bs l) = Lib.byteCells l := by
  simp [Lib.strCells, Lib.byteCells, bs]
theorem byteCells_app (l m : List UInt8) : Lib.byteCells l ++ Lib.byteCells m = Lib.byteCells (l ++ m) := by simp [Lib.byteCells]
theorem byteCells_len (l : List UInt8) : (Lib.byteCells l).length = l.length := by simp [Lib.byteCells]

/-! ### From a reading to cells -/
theorem ints_of_repD {w : World} {X : Nat → Prop} {v : Value} {f : Bool} {x : List Int} (h : RepD w X v (.slice 1 f (encRows x))) :
    ∃ A c, v = .slice A x.length c ∧ (0 < x.length → ∃ b off, A = some ⟨b, off, none⟩ ∧ b < w.heap.size ∧ ∀ j, j < x.length → w.cell? ⟨b, off + j, none⟩ = some (.int .i64 (ix x j))) := by
  cases h with
  | slice _ _ _ a n cap val hn h1 h2 h3 hr hm hv =>
    rw [encRows_length] at hn
    subst hn
    refine ⟨a, cap, rfl, fun h0 => ?_⟩
    obtain ⟨b, off, rfl, hb, _, hc⟩ := hm (by rw [encRows_length]; omega)
    refine ⟨b, off, rfl, hb, fun j hj => ?_⟩
    have h5 := (hc j 0 (by rw [encRows_length]; exact hj) (by decide)).1
    have h6 := hv j 0 _ _ (by rw [encRows, List.getElem?_map, List.getElem?_eq_getElem hj]; rfl) rfl
    simp only [Nat.mul_one, Nat.add_zero] at h5
    rw [h5, ix_lt hj]
    generalize val j 0 = u at h6
    cases h6
    rfl

def gP10 : Nat := 0
def G1 : Nat → AV := fun g => if g = gP10 then .tab .u64 Lib.pow10Tab else .undef
theorem gP10_is : Tryd.prog.globalNamed "internal/strconv.uint64pow10" = some gP10 := by kernel_rfl
theorem tab_of {w : World} {X : Nat → Prop} (h : RepD w X (.pointer (some ⟨gP10, 0, none⟩)) (.tab .u64 Lib.pow10Tab)) : Lib.TabIs Tryd.prog w "internal/strconv.uint64pow10" .u64 Lib.pow10Tab := by
  cases h with
  | tab b k zs t fr hb hX =>
    unfold Lib.TabIs World.var?
    rw [gP10_is]
    simp only [Option.bind_some, hb]
theorem tab_below {w w' : World} {B : Nat} (h : Lib.TabIs Tryd.prog w "internal/strconv.uint64pow10" .u64 Lib.pow10Tab) (hb : Below B w w') (hB : gP10 < B) : Lib.TabIs Tryd.prog w' "internal/strconv.uint64pow10" .u64 Lib.pow10Tab := by
  unfold Lib.TabIs World.var? at *
  rw [gP10_is] at *
  simp only [Option.bind_some] at *
  rw [hb.block gP10 hB]
  exact h

theorem keeps_of_below {w w' : World} {B : Nat} (h : Below B w w') (hB : w.heap.size ≤ B) : Keeps (fun _ => False) w w' :=
  ⟨h.os, h.tape, h.output, h.size, fun b hb _ => h.block b (Nat.lt_of_lt_of_le hb hB)⟩

/-- A contract of one argument, from the call itself. -/
theorem pure1_calls {P : Program} {G : Nat → AV} {f : FuncId} {α : Type} [Enc α] {pre : α → Prop} {res : α → AV}
    (h : ∀ (w : World) (X : Nat → Prop) (v : Value) (a : α), (∀ b, X b → b < w.heap.size) → (∀ g, RepD w X (.pointer (some ⟨g, 0, none⟩)) (G g)) → pre a → RepD w X v (Enc.enc a) →
      Calls P f #[v] w fun e w' => ∃ u, e = .returned u ∧ Keeps (fun _ => False) w w' ∧ RepD w' X u (res a)) : PureOK P G f (spec1 pre res) := by
  intro w X args avs ob r hX hG hsz harg hp hob
  unfold spec1 at hp
  split at hp
  · rename_i av
    injection hp with hp; injection hp with e1 e2; subst e1 e2
    obtain ⟨v, hv, hr⟩ := harg 0 av rfl
    obtain rfl : args = #[v] := by
      match args, hsz, hv with
      | ⟨[x]⟩, _, hv => simp at hv; subst hv; rfl
    have hr := repD_nrmV hr
    rw [hob.1] at hr
    exact h w X v _ hX hG hob.2 hr
  · cases hp

theorem clean33_calls {w : World} {X : Nat → Prop} {v : Value} {a : List Int} (hX : ∀ b, X b → b < w.heap.size) (ha : a.length ≤ 1000000) (hr : RepD w X v (Enc.enc a)) :
    Calls Tryd.prog 33 #[v] w fun e w' => ∃ u, e = .returned u ∧ Keeps (fun _ => False) w w' ∧ RepD w' X u (Enc.enc (numL a)) :=
  clean33 w X #[v] [Enc.enc a] (nrmV (Enc.enc a) = Enc.enc (Enc.dec (Enc.enc a) : List Int) ∧ (Enc.dec (Enc.enc a) : List Int).length ≤ 1000000) _ hX (fun _ => .undef _) rfl (fun j u hu => by
    match j, hu with
    | 0, hu => simp at hu; subst hu; exact ⟨v, rfl, hr⟩
    | j + 1, hu => simp at hu) (by rw [spec1, Enc.dec_enc]) ⟨by simp, by simpa using ha⟩

theorem below_grow (w : World) (k : Nat) (os : Array Obj) : Below w.heap.size w (Go.Sort.grow (w.drewN k) os) :=
  ⟨rfl, rfl, rfl, by simp [Go.Sort.grow, World.drewN], fun b hb => by simp [Go.Sort.grow, World.drewN, Array.getElem?_append_left hb]⟩
theorem owns_below {w w' : World} {B : Nat} {e : TypeId} {sz : Nat} {v : Value} {n : Nat} {zs : List Value} (h : w.ownsRow B e sz v n zs) (hb : Below w.heap.size w w') : w'.ownsRow B e sz v n zs := by
  obtain ⟨h1, h2⟩ := h
  refine ⟨h1, ?_⟩
  rcases h2 with h2 | ⟨g, cap, cur, hv, hg, hh, r⟩
  · exact .inl h2
  · exact .inr ⟨g, cap, cur, hv, hg, (hb.block g (heap_lt41 hh)).trans hh, r⟩
theorem builderAt_below {w w' : World} {T e : TypeId} {B b : Nat} {p : Value} {bs : List Value} (h : Lib.BuilderAt T e B b p bs w) (hb : Below w.heap.size w w') : Lib.BuilderAt T e B b p bs w' := by
  obtain ⟨h1, v, h2, h3, h4⟩ := h
  exact ⟨h1, v, (hb.block b (heap_lt41 h2)).trans h2, owns_below h3 hb, h4⟩
theorem isBuilder_below {w w' : World} {T e : TypeId} {B b : Nat} {bs : List Value} (h : Lib.IsBuilder T e B b bs w) (hb : Below w.heap.size w w') : Lib.IsBuilder T e B b bs w' :=
  h.imp (fun h => builderAt_below h hb) (fun h => builderAt_below h hb)

theorem rep48 : ∀ r, Lib.repeatL [48] r = List.replicate r 48 := by
  intro r
  induction r with
  | zero => rfl
  | succ n ih => first | (rw [Lib.repeatL, ih, List.replicate_succ]; rfl) | simp [Lib.repeatL, ih, List.replicate_succ]
theorem text_zero : textN (val []) = [48] := by rw [textN, val, Lib.decDigits, dif_pos (by decide)]; rfl
theorem text_len {l : Nat} (h : l < 10 ^ 9) : (textN l).length ≤ 9 := (pad_text h).1
theorem B9_ten {c k : Nat} (h : 9 * c ≤ k) : B9 ^ c ≤ 10 ^ k := by
  rw [← ten9, ← Nat.pow_mul]
  exact Nat.pow_le_pow_right (by decide) h
theorem ten_B9 {c k : Nat} (h : k ≤ 9 * c) : 10 ^ k ≤ B9 ^ c := by
  rw [← ten9, ← Nat.pow_mul]
  exact Nat.pow_le_pow_right (by decide) h
theorem text_lim {x : List Int} (hx : Good x) (h : x.length ≤ 64) (j : Nat) : (textN (val (x.drop j))).length ≤ 1000 := by
  obtain ⟨k, h1, h2⟩ := digits_ex (val (x.drop j))
  rw [← padS_eq k _ h1 h2, padS_len]
  have h3 : val (x.drop j) < B9 ^ 64 := val_lt64 (fun y hy => hx y (List.mem_of_mem_drop hy)) (by simp; omega)
  rcases h1 with h1 | h1
  · omega
  · rcases Nat.lt_or_ge k 576 with h4 | h4
    · omega
    · have h5 := B9_ten (c := 64) (k := k) h4
      generalize B9 ^ 64 = T at *
      omega

set_option maxRecDepth 100000 in
set_option maxHeartbeats 4000000 in
theorem text18 : PureOK Tryd.prog G1 18 (spec1 (fun a : List Int => a.length ≤ 1000000) (fun a => .str (bs (textN (nv a))))) := by
  refine pure1_calls (fun w X v a hX hG ha hr => ?_)
  have htab := tab_of (hG gP10)
  have e1 : nv a = val (numL a) := rfl
  rw [e1]
  have hc := clean33_calls hX ha hr
  have hxl := numL_len a
  have hxg := numL_good a
  have hxn := numL_norm a
  have hgl : gP10 < w.heap.size := by
    have := hG gP10
    cases this with
    | tab b k zs t fr hb _ => exact heap_lt41 hb
  clear hr
  generalize numL a = x at *
  clear e1
  go_enter Tryd.func18, Tryd.ntmps18
  go_wp2_with fail
  refine hc.mono ?_
  rintro e w1 ⟨u, rfl, hk, hr⟩
  clear hc
  obtain ⟨A, c, rfl, hcell⟩ := ints_of_repD hr
  have htab1 := tab_below htab (below_of_keeps hk) hgl
  by_cases h0 : x.length = 0
  · obtain rfl := List.length_eq_zero_iff.1 h0
    go_wp2_with fail
    go_ret
    refine ⟨_, rfl, hk, ?_⟩
    rw [text_zero]
    exact .str _
  · obtain ⟨b, off, hA, hb, hcl⟩ := hcell (by omega)
    clear hcell
    subst hA
    obtain ⟨n, hn⟩ : ∃ n, x.length = n + 1 := ⟨x.length - 1, by omega⟩
    have hall : ∀ j, j < x.length → 0 ≤ ix x j ∧ ix x j < 1000000000 := fun j hj => ix_good hxg hj
    have cTop := hcl n (by omega)
    have hgl1 : gP10 < w1.heap.size := Nat.lt_of_lt_of_le hgl hk.size
    have hfresh := Lib.fresh_isBuilder 46 5 w1
    have b1 : Below w1.heap.size w1 (w1.alloc (.cells #[.pointer none, .slice none 0 0] 46)) := (Below.refl _ w1).alloc (Nat.le_refl _) _
    have eT : ((n + 1 : Nat) : Int) - 1 = n := by omega
    rw [hn]
    go_wp2_with fail
    have hit := Tryd.strconv_Itoa (ix x n) (by have := hall n (by omega); omega) (by have := hall n (by omega); omega) _ (tab_below htab1 b1 hgl1)
    refine hit.mono ?_
    clear hit
    rintro e w2 ⟨rfl, kd, os, rfl⟩
    generalize hw1a : w1.alloc (.cells #[.pointer none, .slice none 0 0] 46) = w1a at *
    have b2 := below_grow w1a kd os
    generalize Go.Sort.grow (w1a.drewN kd) os = w2 at *
    have hbu := isBuilder_below hfresh b2
    have hs : ({ data := (Lib.itoa (ix x n)).toArray } : ByteArray) = bs (textN (ix x n).toNat) := by rw [itoa_text (hall n (by omega)).1]; rfl
    rw [hs]
    clear hs
    have hB : w1.heap.size ≤ w2.heap.size := Nat.le_trans b1.size b2.size
    have hlim := text_lim hxg hxl n
    have htop : textN (ix x n).toNat = textN (val (x.drop n)) := by
      have := text_top (x := x) (by omega)
      rw [hn, Nat.add_sub_cancel] at this
      rw [this]
    rw [htop]
    have b12 := b1.trans (b2.mono b1.size)
    go_wp2_with fail
    refine (writeString41 w1.heap.size w1.heap.size [] _ _ hbu (by simp; omega) hB).mono ?_
    rintro e w3 ⟨rfl, hbu3, b3⟩
    rw [str_cells, List.nil_append] at hbu3
    have b13 := b12.trans b3
    clear hbu b1 b2 hfresh hw1a b12 b3 cTop
    go_wp2_with fail
    go_loopw [4, 5] (fun i _ wr => ∃ j : Nat, i = .int .i64 ((j : Int) - 1) ∧ j ≤ n ∧ Lib.BuilderAt 46 5 w1.heap.size w1.heap.size (.pointer (some ⟨w1.heap.size, 0, none⟩)) (Lib.byteCells (textN (val (x.drop j)))) wr ∧ Below w1.heap.size w1 wr)
      (fun i _ _ => (intOf i + 1).toNat)
    case atStart => exact ⟨n, by go_num, Nat.le_refl _, hbu3, b13⟩
    case round =>
      obtain ⟨j, rfl, hj, hbu, hbl⟩ := hrel
      have hsz := hbl.size
      by_cases h1 : j = 0
      · subst h1
        have h2 : ¬ (0 : Int) ≤ ((0 : Nat) : Int) - 1 := by omega
        go_wp2_with fail
        refine (Tryd.Builder_String_any w1.heap.size w1.heap.size _ _ (.inr hbu) hsz).mono ?_
        rintro e w4 ⟨rfl, b4⟩
        go_wp2_with fail
        go_ret
        have hkk := below_of_keeps hk
        refine ⟨_, rfl, keeps_of_below (hkk.trans ((hbl.trans b4).mono hk.size)) (Nat.le_refl _), ?_⟩
        change RepD _ X (.string (bs (textN (val (x.drop 0))))) _
        rw [List.drop_zero]
        exact .str _
      · obtain ⟨m, rfl⟩ : ∃ m, j = m + 1 := ⟨j - 1, by omega⟩
        have e1 : ((m + 1 : Nat) : Int) - 1 = m := by omega
        rw [e1]
        have hm : m < x.length := by omega
        have hml := hall m hm
        have ht9 : (ix x m).toNat < 10 ^ 9 := by have : (10 : Nat) ^ 9 = 1000000000 := rfl; omega
        obtain ⟨hpl, hpt⟩ := pad_text ht9
        have cm := Go.RowKit.Below.cell hbl (p := ⟨b, off + m, none⟩) hb
        rw [hcl m hm] at cm
        have htabr := tab_below htab1 hbl hgl1
        have hlim2 := text_lim hxg hxl (m + 1)
        go_wp2_with fail
        have hit := Tryd.strconv_Itoa (ix x m) (by omega) (by omega) _ htabr
        refine hit.mono ?_
        clear hit
        rintro e w4 ⟨rfl, kd, os, rfl⟩
        have hs : ({ data := (Lib.itoa (ix x m)).toArray } : ByteArray) = bs (textN (ix x m).toNat) := by rw [itoa_text hml.1]; rfl
        rw [hs]
        clear hs
        have b4 := below_grow wr kd os
        generalize Go.Sort.grow (wr.drewN kd) os = w4 at *
        have hbu4 := builderAt_below hbu b4
        have hbl4 := hbl.trans (b4.mono hsz)
        clear hbu cm htabr b4 hbl
        have e2 : (9 : Int) - ((textN (ix x m).toNat).length : Int) = ((9 - (textN (ix x m).toNat).length : Nat) : Int) := by omega
        go_wp2_with fail
        refine (Tryd.strings_Repeat _ (9 - (textN (ix x m).toNat).length) _ (by omega) ?_).mono ?_
        · show 1 * (9 - (textN (ix x m).toNat).length) ≤ _
          omega
        rintro e w5 ⟨rfl, b5⟩
        generalize hr9 : 9 - (textN (ix x m).toNat).length = r at *
        have b5s := hbu4.lt
        have hbu5 := builderAt_below hbu4 b5
        have hbl5 := hbl4.trans (b5.mono hbl4.size)
        have hrep : Lib.repeatL ({ data := #[48] } : ByteArray).data.toList r = List.replicate r 48 := rep48 r
        rw [hrep]
        rw [show ({ data := (List.replicate r 48).toArray } : ByteArray) = bs (List.replicate r 48) from rfl]
        clear hrep b5 hbu4 hbl4 b5s
        go_wp2_with fail
        refine (writeString41 w1.heap.size w1.heap.size _ _ _ (.inr hbu5) (by rw [byteCells_len, bs_size, List.length_replicate]; omega) hbl5.size).mono ?_
        rintro e w6 ⟨rfl, hbu6, b6⟩
        rw [str_cells, byteCells_app] at hbu6
        have hbl6 := hbl5.trans b6
        clear hbu5 hbl5 b6
        go_wp2_with fail
        refine (writeString41 w1.heap.size w1.heap.size _ _ _ (.inr hbu6) (by rw [byteCells_len, bs_size, List.length_append, List.length_replicate]; omega) hbl6.size).mono ?_
        rintro e w7 ⟨rfl, hbu7, b7⟩
        rw [str_cells, byteCells_app, List.append_assoc, ← hpt, ← text_drop hxg hxn (by omega)] at hbu7
        have hbl7 := hbl6.trans b7
        clear hbu6 hbl6 b7
        go_wp2_with fail
        go_roundw
        case rel => exact ⟨m, by go_num, by omega, hbu7, hbl7⟩
        case measure => simp [intOf]
end Go.Proofs.YtankjfiaajpfoaaDoor
