/-
  lex: tokens as plain values; contracts carried over from the walks.
-/
import Derived.Test.YtogepfcmmmokdaaT
import Derived.Test.YtogepfcmmmokdaaAmE
import Derived.Test.YtogepfcmmmokdaaTokens2
import Derived.Test.YtogepfcmmmokdaaRef2
import Derived.Test.YtogepfcmmmokdaaRef3
import Derived.Test.YtogepfcmmmokdaaRef4
import Derived.Test.YtogepfcmmmokdaaAlive
namespace Go.Proofs.Ytogepfcmmmokdaa
open Go.RowKit
set_option linter.unusedSimpArgs false
set_option linter.unusedVariables false

instance : Inhabited Tok := ⟨⟨0, 0, 0, 0, ByteArray.empty⟩⟩
instance : Enc Tok where
  sz := 5
  cells t := [.int .i64 t.kind, .int .i64 t.at_, .int .i64 t.size, .int .i64 t.n, .str t.s]
  enc t := .agg [.int .i64 t.kind, .int .i64 t.at_, .int .i64 t.size, .int .i64 t.n, .str t.s]
  unc l := match l with | [.int _ a, .int _ b, .int _ c, .int _ d, .str s] => ⟨a, b, c, d, s⟩ | _ => default
  dec v := match v with | .agg [.int _ a, .int _ b, .int _ c, .int _ d, .str s] => ⟨a, b, c, d, s⟩ | _ => default
  unc_cells _ := rfl
  dec_enc _ := rfl
@[simp] theorem sz_tok : Enc.sz Tok = 5 := rfl
@[simp] theorem cells_tok (t : Tok) : Enc.cells t = [.int .i64 t.kind, .int .i64 t.at_, .int .i64 t.size, .int .i64 t.n, .str t.s] := rfl
@[simp] theorem rows_snoc_tok (l : List Tok) (a b c d : Int) (s : ByteArray) : encRows l ++ [[.int .i64 a, .int .i64 b, .int .i64 c, .int .i64 d, .str s]] = encRows (l ++ [⟨a, b, c, d, s⟩]) := by rw [encRows_append]; rfl
@[simp] theorem unc_tok (a b c d : Int) (s : ByteArray) : (Enc.unc [.int .i64 a, .int .i64 b, .int .i64 c, .int .i64 d, .str s] : Tok) = ⟨a, b, c, d, s⟩ := rfl

/-- What a reader hands back, as it reads. -/
def resAV : Res → AV
  | .ok t en => .agg [.int .i64 t.kind, .int .i64 t.at_, .int .i64 t.size, .int .i64 t.n, .str t.s, .int .i64 en, .int .i64 0, .int .i64 0]
  | .err a c => .agg [.int .i64 0, .int .i64 0, .int .i64 0, .int .i64 0, .str ByteArray.empty, .int .i64 0, .int .i64 a, .int .i64 c]

inductive Flat2 : List Value → List AV → Prop
  | nil : Flat2 [] []
  | int (k : IntKind) (n : Int) {cs : List Value} {avs : List AV} (h : Flat2 cs avs) : Flat2 (.int k n :: cs) (.int k n :: avs)
  | str (s : ByteArray) {cs : List Value} {avs : List AV} (h : Flat2 cs avs) : Flat2 (.string s :: cs) (.str s :: avs)
theorem Flat2.len {cs : List Value} {avs : List AV} (h : Flat2 cs avs) : cs.length = avs.length := by
  induction h with
  | nil => rfl
  | int k n h ih => simp [ih]
  | str s h ih => simp [ih]
theorem Flat2.get {w : World} {X : Nat → Prop} {cs : List Value} {avs : List AV} (h : Flat2 cs avs) : ∀ (j : Nat) (u : AV), avs[j]? = some u → ∃ v, cs[j]? = some v ∧ v.oneCell' = true ∧ RepD w X v u := by
  induction h with
  | nil => intro j u hj; simp at hj
  | int k n h ih =>
    intro j u hj
    match j with
    | 0 => simp at hj; subst hj; exact ⟨_, rfl, rfl, .int _ _⟩
    | j + 1 => exact ih j u (by simpa using hj)
  | str s h ih =>
    intro j u hj
    match j with
    | 0 => simp at hj; subst hj; exact ⟨_, rfl, rfl, .str _⟩
    | j + 1 => exact ih j u (by simpa using hj)
theorem Flat2.agg {w : World} {X : Nat → Prop} {cs : List Value} {avs : List AV} (h : Flat2 cs avs) : RepD w X (.agg cs.toArray) (.agg avs) :=
  .agg cs.toArray avs (fun j => (cs[j]?).getD undef) (by simp [h.len]) (fun j hj => by
    obtain ⟨v, h1, h2, _⟩ := h.get (w := w) (X := X) j _ (List.getElem?_eq_getElem hj)
    simp [h1, h2]) (fun j u hj => by
    obtain ⟨v, h1, _, h3⟩ := h.get (w := w) (X := X) j u hj
    simpa [h1] using h3)

theorem res_reads {w : World} {X : Nat → Prop} (r : Res) : RepD w X (.agg (resCells r)) (resAV r) := by
  cases r with
  | ok t en => exact Flat2.agg (.int _ _ (.int _ _ (.int _ _ (.int _ _ (.str _ (.int _ _ (.int _ _ (.int _ _ .nil))))))))
  | err a c => exact Flat2.agg (.int _ _ (.int _ _ (.int _ _ (.int _ _ (.str _ (.int _ _ (.int _ _ (.int _ _ .nil))))))))

theorem keeps_of_below {w w' : World} {B : Nat} (h : Below B w w') (hB : w.heap.size ≤ B) : Keeps (fun _ => False) w w' :=
  ⟨h.os, h.tape, h.output, h.size, fun b hb _ => h.block b (Nat.lt_of_lt_of_le hb hB)⟩

/-- Contracts of one or two arguments, from the call itself. -/
theorem pure1_calls {P : Program} {G : Nat → AV} {f : FuncId} {α : Type} [Enc α] {pre : α → Prop} {res : α → AV}
    (h : ∀ (w : World) (X : Nat → Prop) (v : Value) (a : α), (∀ b, X b → b < w.heap.size) → (∀ g, RepD w X (.pointer (some ⟨g, 0, none⟩)) (G g)) → pre a → RepD w X v (Enc.enc a) →
      Calls P f #[v] w fun e w' => ∃ u, e = .returned u ∧ Keeps (fun _ => False) w w' ∧ RepD w' X u (res a)) : PureOK P G f (spec1 pre res) := by
  intro w X args avs ob r hX hG hsz harg hp hob
  unfold spec1 at hp
  split at hp
  · rename_i av
    injection hp with hp; injection hp with e1 e2; subst e1 e2
    obtain ⟨v, hv, hr⟩ := harg 0 av rfl
    obtain rfl : args = #[v] := by
      match args, hsz, hv with
      | ⟨[x]⟩, _, hv => simp at hv; subst hv; rfl
    have hr := repD_nrmV hr
    rw [hob.1] at hr
    exact h w X v _ hX hG hob.2 hr
  · cases hp
theorem pure2_calls {P : Program} {G : Nat → AV} {f : FuncId} {α β : Type} [Enc α] [Enc β] {pre : α → β → Prop} {res : α → β → AV}
    (h : ∀ (w : World) (X : Nat → Prop) (v v1 : Value) (a : α) (b : β), (∀ b, X b → b < w.heap.size) → (∀ g, RepD w X (.pointer (some ⟨g, 0, none⟩)) (G g)) → pre a b → RepD w X v (Enc.enc a) → RepD w X v1 (Enc.enc b) →
      Calls P f #[v, v1] w fun e w' => ∃ u, e = .returned u ∧ Keeps (fun _ => False) w w' ∧ RepD w' X u (res a b)) : PureOK P G f (spec2 pre res) := by
  intro w X args avs ob r hX hG hsz harg hp hob
  unfold spec2 at hp
  split at hp
  · rename_i av bv
    injection hp with hp; injection hp with e1 e2; subst e1 e2
    obtain ⟨v, hv, hr⟩ := harg 0 av rfl
    obtain ⟨v1, hv1, hr1⟩ := harg 1 bv rfl
    obtain rfl : args = #[v, v1] := by
      match args, hsz, hv, hv1 with
      | ⟨[x, y]⟩, _, hv, hv1 => simp at hv hv1; subst hv hv1; rfl
    have hr := repD_nrmV hr
    have hr1 := repD_nrmV hr1
    rw [hob.1] at hr
    rw [hob.2.1] at hr1
    exact h w X v v1 _ _ hX hG hob.2.2 hr hr1
  · cases hp
theorem pure0_calls {P : Program} {G : Nat → AV} {f : FuncId} {res : AV}
    (h : ∀ (w : World) (X : Nat → Prop), (∀ b, X b → b < w.heap.size) → (∀ g, RepD w X (.pointer (some ⟨g, 0, none⟩)) (G g)) →
      Calls P f #[] w fun e w' => ∃ u, e = .returned u ∧ Keeps (fun _ => False) w w' ∧ RepD w' X u res) : PureOK P G f (spec0 res) := by
  intro w X args avs ob r hX hG hsz harg hp hob
  unfold spec0 at hp
  split at hp
  · injection hp with hp; injection hp with e1 e2; subst e1 e2
    obtain rfl : args = #[] := by
      match args, hsz with
      | ⟨[]⟩, _ => rfl
    exact h w X hX hG
  · cases hp

/-- The package's variables: the library's limit holds an integer. -/
def G (m : Int) : Nat → AV := fun g => if g = 0 then .iptr [.int .i64 m] else .undef
theorem hasMax_G {m : Int} {w : World} {X : Nat → Prop} (h : ∀ g, RepD w X (.pointer (some ⟨g, 0, none⟩)) (G m g)) : HasMax w := by
  have := h 0
  unfold G at this
  rw [if_pos rfl] at this
  cases this with
  | iptr b off cells val hb hX hm hv =>
    refine ⟨m, ?_⟩
    have h1 := (hm 0 (by simp)).1
    have h2 := hv 0 _ rfl
    rw [Nat.zero_add] at h1
    rw [h1]
    generalize val 0 = u at h2
    cases h2
    rfl
theorem G_hasMax {w : World} (h : HasMax w) : ∃ m, ∀ g, RepD w (fun _ => False) (.pointer (some ⟨g, 0, none⟩)) (G m g) := by
  obtain ⟨m, hm⟩ := h
  refine ⟨m, fun g => ?_⟩
  unfold G
  split
  · rename_i hg
    subst hg
    refine .iptr 0 0 _ (fun _ => .int .i64 m) (World.block_lt_of_cell? w _ hm) id (fun j hj => ?_) (fun j v hv => ?_)
    · have : j = 0 := by simpa using hj
      subst this
      exact ⟨hm, rfl⟩
    · match j, hv with
      | 0, hv => simp at hv; subst hv; exact .int _ _
      | j + 1, hv => simp at hv
  · exact .undef _

theorem repS {w : World} {X : Nat → Prop} {v : Value} {s : ByteArray} (h : RepD w X v (Enc.enc s)) : v = .string s := by cases h; rfl
theorem repI {w : World} {X : Nat → Prop} {v : Value} {n : Int} (h : RepD w X v (Enc.enc n)) : v = .int .i64 n := by cases h; rfl

section
variable {m : Int}

theorem p8 : PureOK Try.prog (G m) 8 (spec0 (.bool true)) := pure0_calls fun w X hX hG =>
  (alive8 w (hasMax_G hG)).mono fun e w' ⟨he, hb⟩ => ⟨_, he, keeps_of_below hb (Nat.le_refl _), .bool _⟩

def resP (f : ByteArray → Nat → Res) (s : ByteArray) (k : Int) : AV := resAV (f s k.toNat)
theorem p42 : PureOK Try.prog (G m) 42 (spec2 (fun (_ _ : Int) => True) (fun a c => resAV (.err a c))) := pure2_calls fun w X v v1 a b hX hG _ h h1 => by
  obtain rfl := repI h
  obtain rfl := repI h1
  exact (wrong42 a b w).mono fun e w' ⟨he, hb⟩ => ⟨_, he, keeps_of_below hb (Nat.le_refl _), res_reads _⟩
theorem p32 : PureOK Try.prog (G m) 32 (spec2 (fun (s : ByteArray) (k : Int) => s.size ≤ 2000 ∧ 0 ≤ k ∧ k < s.size) (resP wordR)) := pure2_calls fun w X v v1 s k hX hG hp h h1 => by
  obtain rfl := repS h
  obtain rfl := repI h1
  obtain ⟨n, rfl⟩ := Int.eq_ofNat_of_zero_le hp.2.1
  exact (word32 s n w hp.1 (by have := hp.2.2; omega)).mono fun e w' ⟨he, hb⟩ => ⟨_, he, keeps_of_below hb (Nat.le_refl _), res_reads _⟩
theorem p34 : PureOK Try.prog (G m) 34 (spec2 (fun (s : ByteArray) (k : Int) => s.size ≤ 2000 ∧ 0 ≤ k ∧ k < s.size) (resP numR)) := pure2_calls fun w X v v1 s k hX hG hp h h1 => by
  obtain rfl := repS h
  obtain rfl := repI h1
  obtain ⟨n, rfl⟩ := Int.eq_ofNat_of_zero_le hp.2.1
  exact (number34 s n w hp.1 (by have := hp.2.2; omega)).mono fun e w' ⟨he, hb⟩ => ⟨_, he, keeps_of_below hb (Nat.le_refl _), res_reads _⟩
theorem p36 : PureOK Try.prog (G m) 36 (spec2 (fun (s : ByteArray) (k : Int) => s.size ≤ 2000 ∧ 0 ≤ k ∧ k < s.size) (resP signR)) := pure2_calls fun w X v v1 s k hX hG hp h h1 => by
  obtain rfl := repS h
  obtain rfl := repI h1
  obtain ⟨n, rfl⟩ := Int.eq_ofNat_of_zero_le hp.2.1
  exact (sign36 s n w hp.1 (by have := hp.2.2; omega)).mono fun e w' ⟨he, hb⟩ => ⟨_, he, keeps_of_below hb (Nat.le_refl _), res_reads _⟩

/-- What Tokens hands back. -/
def outAV : Out → AV
  | .done ts => .tup [Enc.enc ts, .int .i64 0, .int .i64 0]
  | .fault a c => .tup [.slice 5 false [], .int .i64 a, .int .i64 c]

theorem tup3 {w : World} {X : Nat → Prop} {v0 v1 v2 : Value} {a0 a1 a2 : AV} (h0 : RepD w X v0 a0) (h1 : RepD w X v1 a1) (h2 : RepD w X v2 a2) : RepD w X (.tuple #[v0, v1, v2]) (.tup [a0, a1, a2]) := by
  refine .tup #[v0, v1, v2] [a0, a1, a2] (fun j => (#[v0, v1, v2][j]?).getD undef) rfl (fun j hj => ?_) (fun j u hu => ?_)
  · match j, hj with
    | 0, _ => rfl
    | 1, _ => rfl
    | 2, _ => rfl
  · match j, hu with
    | 0, hu => simp at hu; subst hu; exact h0
    | 1, hu => simp at hu; subst hu; exact h1
    | 2, hu => simp at hu; subst hu; exact h2
    | j + 3, hu => simp at hu

theorem owns_reads {w w' : World} {X : Nat → Prop} (hX : ∀ b, X b → b < w.heap.size) {v : Value} {ts : List Tok} (h : OwnT w' w.heap.size v ts) : RepD w' X v (Enc.enc ts) := by
  obtain ⟨h1, h2⟩ := h
  have hflat := h1
  rcases h2 with ⟨rfl, h2⟩ | ⟨g, cap, cur, rfl, hg, hh, hc, hm, hs, ht⟩
  · obtain rfl := List.length_eq_zero_iff.1 h2
    exact .slice _ false [] none 0 0 (fun _ _ => undef) rfl (Nat.le_refl _) (Nat.zero_le _) (fun h => by cases h) (fun r h => by cases h) (fun h => absurd rfl h) (fun i j r v h => by simp at h)
  · have hlt : g < w'.heap.size := by
      rcases Nat.lt_or_ge g w'.heap.size with h | h
      · exact h
      · rw [Array.getElem?_eq_none h] at hh; cases hh
    have hget : ∀ i j, i < ts.length → j < 5 → w'.cell? ⟨g, 0 + i * 5 + j, none⟩ = some ((((ts[i]?).getD default).cells[j]?).getD undef) := by
      intro i j hi hj
      rw [cell_of_row w' g (0 + i * 5 + j) cur _ _ hh]
      have hk : i * 5 + j < ts.length * 5 := by omega
      have e1 : cur[0 + i * 5 + j]? = (cur.toList.take (ts.length * 5))[i * 5 + j]? := by
        rw [Nat.zero_add, List.getElem?_take, if_pos hk]; simp
      rw [e1, ht, flat_get ts i hi j hj, List.getElem?_eq_getElem hi]
      have : j < (ts[i]).cells.length := by simp [Tok.cells]; omega
      simp [List.getElem?_eq_getElem this]
    refine .slice _ false _ _ ts.length cap (fun i j => (((ts[i]?).getD default).cells[j]?).getD undef) (by simp) (by simpa using hc) hm (fun h => by cases h) (fun r hr => ?_) (fun h0 => ⟨g, 0, rfl, hlt, fun hx => absurd (hX g hx) (by omega), fun i j hi hj => ⟨hget i j (by simpa using hi) hj, ?_⟩⟩) (fun i j r v hr hv => ?_)
    · obtain ⟨t, _, rfl⟩ := List.mem_map.1 hr
      rfl
    · have hi' : i < ts.length := by simpa using hi
      have hj' : j < 5 := hj
      rw [List.getElem?_eq_getElem hi', Option.getD_some]
      have : j < (ts[i]).cells.length := by simp [Tok.cells]; omega
      rw [List.getElem?_eq_getElem this, Option.getD_some]
      exact Tok.oneCell _ _ (List.getElem_mem this)
    · rw [List.getElem?_map] at hr
      simp only [Option.map_eq_some_iff] at hr
      obtain ⟨t, ht', rfl⟩ := hr
      rw [ht', Option.getD_some]
      match j, hv with
      | 0, hv => simp at hv; subst hv; exact .int _ _
      | 1, hv => simp at hv; subst hv; exact .int _ _
      | 2, hv => simp at hv; subst hv; exact .int _ _
      | 3, hv => simp at hv; subst hv; exact .int _ _
      | 4, hv => simp at hv; subst hv; exact .str _
      | j + 5, hv => simp at hv

theorem p9 : PureOK Try.prog (G m) 9 (spec1 (fun (_ : ByteArray) => True) (fun s => outAV (tokens s))) := pure1_calls fun w X v s hX hG _ h => by
  obtain rfl := repS h
  refine (tokens9o s w (hasMax_G hG)).mono fun e w' hr => ?_
  cases ht : tokens s with
  | done ts =>
    rw [ht] at hr
    obtain ⟨v, he, ho, hb⟩ := hr
    exact ⟨_, he, keeps_of_below hb (Nat.le_refl _), tup3 (owns_reads hX ho) (.int _ _) (.int _ _)⟩
  | fault a c =>
    rw [ht] at hr
    obtain ⟨he, hb⟩ := hr
    refine ⟨_, he, keeps_of_below hb (Nat.le_refl _), tup3 ?_ (.int _ _) (.int _ _)⟩
    exact .slice _ false [] none 0 0 (fun _ _ => undef) rfl (Nat.le_refl _) (Nat.zero_le _) (fun h => by cases h) (fun r h => by cases h) (fun h => absurd rfl h) (fun i j r v h => by simp at h)
end
end Go.Proofs.Ytogepfcmmmokdaa
