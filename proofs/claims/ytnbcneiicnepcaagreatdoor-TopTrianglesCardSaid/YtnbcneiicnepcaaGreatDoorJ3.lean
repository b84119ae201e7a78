/-
  Texts joined.
-/
import Derived.Test.YtnbcneiicnepcaaGreatDoorJ2
import Derived.Deep.Slices
import Derived.ChangeSame
import Derived.Below
import Derived.RangeFuncLeaves
import Derived.RangeFuncRecord
import Derived.TacticsIn
import Derived.Maps.RangeRun
import Derived.Shelf.SortM.Plain
import Derived.Shelf.SortM.SortNone
import Derived.Shelf.GgSortFunc.Insertion
import Derived.Test.YtnbcneiicnepcaaGreatDoorProg
import Derived.Shelf.SlGeneric
import Derived.Shelf.SlLaysM
import Derived.Ground.SlgmProg
import Derived.Laws.Externs
import Derived.Lib.Mul64
namespace Go.Proofs.YtnbcneiicnepcaaGreatDoor
open Nat (add_zero le_refl lt_or_ge succ_ne_self zero_add zero_le)
open List (all_cons all_eq_true all_nil ext_getElem? filter_cons getElem?_append_left getElem?_eq_getElem getElem?_map getElem?_set_ne getElem?_set_self getElem?_take length_map map_cons map_id' map_map mem_cons mem_cons_of_mem mem_cons_self mem_map mem_of_getElem?)
open Option (map_eq_some_iff map_some)
open Int (dvd_mul_of_dvd_right eq_ofNat_of_zero_le gcd_dvd_left gcd_dvd_right gcd_eq_one_iff gcd_mul_left mul_pos mul_tdiv_cancel_left natAbs_mul natAbs_natCast)
open _root_.Go.Proofs.Tryz
noncomputable section
set_option maxHeartbeats 16000000
open Go.RowKit Go.WideShapes Go.ChangeShapes
def CellsD (w : World) (cs : List Value) (avs : List AV) : Prop :=
 cs.length = avs.length /\ ∀ (j : Nat) (v : AV), avs[j]? = some v -> ∃ u, cs[j]? = some u /\ u.oneCell' = true /\ RepD w (λ _ => False) u v
def lN (P : Program) (n : Nat) (t : TypeId) (α : Type) [Enc α] (wf : α -> Prop) : Prop :=
 ∀ {H : Type} (enc : TypeId × Value -> H) (w : World) (held : Bool) (cs : List Value) (x : DataW H × List MemPlace), DataW.trod enc P w 0 (λ _ => true) held n t cs = some x -> ∃ a : α, wf a /\ CellsD w cs (Enc.cells a)
def Reads (P : Program) (t : TypeId) (α : Type) [Enc α] (wf : α -> Prop) : Prop := ∀ n, lN P n t α wf
theorem CellsD.nil (w : World) : CellsD w [] [] := ⟨rfl, λ j v h => by simp at h⟩
theorem CellsD.one {w : World} {u : Value} {v : AV} (h : RepD w (λ _ => False) u v) (h1 : u.oneCell' = true) : CellsD w [u] [v] := ⟨rfl, λ j x hj => by
 match j with
 | 0 => simp at hj; subst hj; exact ⟨u, rfl, h1, h⟩
 | j + 1 => simp at hj⟩
theorem CellsD.append {w : World} {cs ds : List Value} {A B : List AV} (h : CellsD w cs A) (h' : CellsD w ds B) : CellsD w (cs ++ ds) (A ++ B) := by
 refine ⟨by simp [h.1, h'.1], λ j v hj => ?_⟩
 rcases lt_or_ge j A.length with hlt | hge
 ·rw [getElem?_append_left hlt] at hj
  rw [getElem?_append_left (by rw [h.1]; exact hlt)]
  exact h.2 j v hj
 ·rw [List.getElem?_append_right hge] at hj
  rw [List.getElem?_append_right (by rw [h.1]; exact hge), h.1]
  exact h'.2 _ v hj
theorem CellsD.split {w : World} {cs : List Value} {o s : Nat} {A B : List AV} (h : CellsD w ((cs.drop o).take s) A) (h' : CellsD w (cs.drop (o + s)) B) : CellsD w (cs.drop o) (A ++ B) := by
 have := h.append h'
 rwa [<- List.drop_drop, List.take_append_drop] at this
theorem CellsD.last {w : World} {cs : List Value} {o : Nat} (h : cs.length <= o) : CellsD w (cs.drop o) [] := by rw [List.drop_eq_nil_of_le h]; exact CellsD.nil w
section
variable {P : Program} {n : Nat} {t e : TypeId}
theorem wO (h : mU P t = some .i64) : lN P n t Int I64 := by
 intro H enc w held cs x hx
 cases n with
 | zero => simp [DataW.trod] at hx
 | succ n =>
  unfold DataW.trod at hx
  rw [jk h] at hx
  split at hx <;> simp_all
  rename_i k k' z heq
  subst heq
  obtain rfl := hx.1.1
  refine ⟨z, ?_, CellsD.one (.int _ _) rfl⟩
  have := hx.1.2
  simp only [Lit.wf, Bool.and_eq_true, decide_eq_true_eq] at this
  unfold I64
  exact this
theorem wP (h : lI P t = true) : lN P n t ByteArray (λ s => s.size <= maxLen) := by
 intro H enc w held cs x hx
 cases n with
 | zero => simp [DataW.trod] at hx
 | succ n =>
  unfold DataW.trod at hx
  rw [dU h] at hx
  have key : ∃ s : ByteArray, cs = [.string s] /\ s.size <= maxLen := by split at hx <;> simp_all
  obtain ⟨s, rfl, hs⟩ := key
  exact ⟨s, hs, CellsD.one (.str _) rfl⟩
def WfL {α : Type} (wf : α -> Prop) (l : List α) : Prop := l.length <= maxLen /\ ∀ a ∈ l, wf a
theorem uW {w : World} {a : Addr} {u : Value} (h : w.cell? a = some u) : ∃ b off, a = ⟨b, off, none⟩ := by
 obtain ⟨b, off, spot⟩ := a
 have hspot : spot = none := by simpa using World.cell?_spot h
 subst hspot
 exact ⟨b, off, rfl⟩
theorem ma {α : Type} [Enc α] [Inhabited α] {wf : α -> Prop} (h : elT P t = some e) (hz : szT P e = Enc.sz α) (hp : 0 < szT P e) (he : lN P n e α wf) : lN P (n + 1) t (List α) (WfL wf) := by
 intro H enc w held cs x hx
 rcases DataW.trod_slice (cm h) hx with ⟨rfl, _⟩ | ⟨a, len, cap, elems, rest, m, hm, rfl, _, _, hl, hc, hlen, hel, _, _⟩
 ·refine ⟨[], ⟨zero_le _, by simp⟩, CellsD.one ?_ rfl⟩
  exact .slice _ false [] none 0 0 (λ _ _ => undef) rfl (le_refl _) (zero_le _) (λ h => by cases h) (λ r h => by cases h) (λ h => absurd rfl h) (λ i j r v h => by simp at h)
 ·obtain rfl : n = m := by omega
  obtain ⟨V, hV⟩ := Go.Deep.choose_lt (n := len) (p := λ i (y : α × List Value) => wf y.1 /\ w.cells? 0 (a.add (i * szT P e)) (szT P e) = some y.2 /\ CellsD w y.2 (Enc.cells y.1)) (λ i hi => by
   have := hel i hi
   rw [getElem?_eq_getElem (by omega)] at this
   obtain ⟨cs', h1, h2⟩ := Option.bind_eq_some_iff.1 this
   obtain ⟨y, hy, hcd⟩ := he enc w held cs' _ h2
   exact ⟨(y, cs'), hy, h1, hcd⟩)
  refine ⟨(List.range len).map λ i => (V i).1, ⟨by simp; omega, λ y hy => ?_⟩, CellsD.one ?_ rfl⟩
  ·obtain ⟨i, hi, rfl⟩ := mem_map.1 hy
   exact (hV i (List.mem_range.1 hi)).1
  ·have hcell : ∀ i j, i < len -> j < szT P e -> ∃ v, w.cell? (a.add (i * szT P e + j)) = some v /\ (V i).2[j]? = some v := by
    intro i j hi hj
    obtain ⟨_, h2, _⟩ := hV i hi
    obtain ⟨_, h3, h4⟩ := World.cells?_some h2
    have := h4 j hj
    rw [Go.Deep.add_add] at this
    rw [getElem?_eq_getElem (by omega)] at this ⊢
    exact ⟨_, this, rfl⟩
   have hsz : ∀ i, i < len -> (Enc.cells (V i).1).length = Enc.sz α := by
    intro i hi
    obtain ⟨_, h2, h3⟩ := hV i hi
    obtain ⟨_, h4, _⟩ := World.cells?_some h2
    rw [<- h3.1, h4, hz]
   refine .slice _ false _ (some a) len cap (λ i j => ((V i).2[j]?).getD undef) (by simp) (by simpa using hl) hc (λ h => by cases h) (λ r hr => ?_) (λ h0 => ?_) (λ i j r v hr hv => ?_)
   ·simp only [map_map, mem_map, List.mem_range, Function.comp_apply] at hr
    obtain ⟨i, hi, rfl⟩ := hr
    exact hsz i hi
   ·have h0' : 0 < len := by simp at h0; omega
    obtain ⟨v0, hv0, _⟩ := hcell 0 0 h0' (by omega)
    simp only [Nat.zero_mul, zero_add] at hv0
    obtain ⟨b, off, rfl⟩ := uW (by simpa [Addr.add] using hv0 : w.cell? a = some v0)
    refine ⟨b, off, rfl, ?_, id, λ i j hi hj => ?_⟩
    ·have := World.block_lt_of_cell? w _ hv0
     simpa [Addr.add] using this
    ·have hi' : i < len := by simpa using hi
     rw [<- hz] at hj
     obtain ⟨v, hv, hv'⟩ := hcell i j hi' hj
     rw [hv', <- hz]
     have e : (⟨b, off, none⟩ : Addr).add (i * szT P e + j) = ⟨b, off + i * szT P e + j, none⟩ := by
      unfold Addr.add
      split
      ·rename_i h; rw [Nat.add_assoc, h]; rfl
      ·simp [Nat.add_assoc]
     rw [e] at hv
     refine ⟨hv, ?_⟩
     obtain ⟨_, _, h3⟩ := hV i hi'
     obtain ⟨u, hu, h1, _⟩ := h3.2 j _ (getElem?_eq_getElem (by rw [hsz i hi', <- hz]; exact hj))
     rw [hv'] at hu
     injection hu with hu
     subst hu
     exact h1
   ·simp only [map_map, getElem?_map, map_eq_some_iff, Function.comp_apply] at hr
    obtain ⟨i', hi', rfl⟩ := hr
    have hlt : i < len := by have := (List.getElem?_eq_some_iff.1 hi').1; simpa using this
    rw [List.getElem?_range hlt] at hi'
    injection hi' with hi'
    subst hi'
    obtain ⟨_, _, h3⟩ := hV i hlt
    obtain ⟨u, hu, _, h4⟩ := h3.2 j v hv
    rw [hu]
    exact h4
theorem ft {H : Type} {enc : TypeId × Value -> H} {w : World} {held : Bool} {cs : List Value} {x : DataW H × List MemPlace} (hs : ∃ fs, P.underlying t = some (.struct fs)) (h : DataW.trod enc P w 0 (λ _ => true) held n t cs = some x) :
  ∃ m, n = m + 1 /\ cs.length = szT P t /\ ∀ k off ty, bz P t k = some (off, ty) -> ∃ y, DataW.trod enc P w 0 (λ _ => true) held m ty ((cs.drop off).take (szT P ty)) = some y := by
 obtain ⟨fs, ht⟩ := hs
 obtain ⟨xs, m, hm, _, hl, hlen, hf⟩ := DataW.trod_struct ht h
 refine ⟨m, hm, hl, λ k off ty hk => ?_⟩
 obtain ⟨fs', f, h1, h2, rfl, rfl⟩ := oj hk
 rw [ht] at h1
 injection h1 with h1
 injection h1 with h1
 subst h1
 have := hf k f h2
 have hk : k < xs.length := by have := (Array.getElem?_eq_some_iff.1 h2).1; omega
 rw [getElem?_eq_getElem hk] at this
 exact ⟨_, this⟩
end
theorem BB {P : Program} {t : TypeId} (h : mU P t = some .i64) : Reads P t Int I64 := λ _ => wO h
theorem BF {P : Program} {t : TypeId} (h : lI P t = true) : Reads P t ByteArray (λ s => s.size <= maxLen) := λ _ => wP h
theorem jp {P : Program} {t e : TypeId} {α : Type} [Enc α] [Inhabited α] {wf : α -> Prop} (h : elT P t = some e) (hz : szT P e = Enc.sz α) (hp : 0 < szT P e) (he : Reads P e α wf) : Reads P t (List α) (WfL wf) := λ n => by
 cases n with
 | zero => intro H enc w held cs x hx; simp [DataW.trod] at hx
 | succ n => exact ma h hz hp (he n)
section
variable {P : Program} {t : TypeId} {α : Type} [Enc α] {wf : α -> Prop} {H : Type} {enc : TypeId × Value -> H} {w : World} {held : Bool} {v : Value} {d : DataW H} {p : List MemPlace}
theorem CellsD.head {w : World} {v : Value} {av : AV} (h : CellsD w [v] [av]) : RepD w (λ _ => False) v av := by
 obtain ⟨u, hu, _, hr⟩ := h.2 0 av rfl
 simp at hu
 subst hu
 exact hr
theorem Reads.top1 (R : Reads P t α wf) (hE : ∀ a : α, Enc.cells a = [Enc.enc a]) (hv : v.cells = #[v]) (h : DataW.Trod enc P w 0 (λ _ => true) held t v d p) : ∃ a : α, wf a /\ RepD w (λ _ => False) v (Enc.enc a) := by
 obtain ⟨n, h⟩ := h
 obtain ⟨a, ha, hc⟩ := R n enc w held _ _ h
 rw [hv, hE a] at hc
 exact ⟨a, ha, hc.head⟩
theorem Reads.slice (R : Reads P t α wf) (hE : ∀ a : α, Enc.cells a = [Enc.enc a]) {e : TypeId} {r : Reach} {b0 : Nat} (ht : elT P t = some e) (hv : Value.okWide P w r b0 t v) (h : DataW.Trod enc P w 0 (λ _ => true) held t v d p) : ∃ a : α, wf a /\ RepD w (λ _ => False) v (Enc.enc a) := by
 obtain ⟨a, l, c, rfl⟩ := okWide_slice (cm ht) hv
 exact R.top1 hE rfl h
theorem Reads.int {k : IntKind} (R : Reads P t α wf) (hE : ∀ a : α, Enc.cells a = [Enc.enc a]) {r : Reach} {b0 : Nat} (ht : mU P t = some k) (hv : Value.okWide P w r b0 t v) (h : DataW.Trod enc P w 0 (λ _ => true) held t v d p) : ∃ a : α, wf a /\ RepD w (λ _ => False) v (Enc.enc a) := by
 obtain ⟨n, rfl⟩ := okWide_int (jk ht) hv
 exact R.top1 hE rfl h
theorem Reads.str (R : Reads P t α wf) (hE : ∀ a : α, Enc.cells a = [Enc.enc a]) {r : Reach} {b0 : Nat} (ht : lI P t = true) (hv : Value.okWide P w r b0 t v) (h : DataW.Trod enc P w 0 (λ _ => true) held t v d p) : ∃ a : α, wf a /\ RepD w (λ _ => False) v (Enc.enc a) := by
 obtain ⟨n, rfl⟩ := okWide_string (dU ht) hv
 exact R.top1 hE rfl h
theorem Reads.bool (R : Reads P t α wf) (hE : ∀ a : α, Enc.cells a = [Enc.enc a]) {r : Reach} {b0 : Nat} (ht : pt P t = true) (hv : Value.okWide P w r b0 t v) (h : DataW.Trod enc P w 0 (λ _ => true) held t v d p) : ∃ a : α, wf a /\ RepD w (λ _ => False) v (Enc.enc a) := by
 obtain ⟨n, rfl⟩ := okWide_bool (jP ht) hv
 exact R.top1 hE rfl h
theorem Reads.struct (R : Reads P t α wf) (hE : ∀ a : α, Enc.enc a = .agg (Enc.cells a)) {r : Reach} {b0 : Nat} (ht : ∃ fs, P.underlying t = some (.struct fs)) (hv : Value.okWide P w r b0 t v) (h : DataW.Trod enc P w 0 (λ _ => true) held t v d p) : ∃ a : α, wf a /\ RepD w (λ _ => False) v (Enc.enc a) := by
 obtain ⟨fs, ht⟩ := ht
 obtain ⟨cs, rfl, _⟩ := okWide_struct ht hv
 obtain ⟨n, h⟩ := h
 obtain ⟨a, ha, hc⟩ := R n enc w held _ _ h
 refine ⟨a, ha, ?_⟩
 rw [hE a]
 obtain ⟨h1, h2⟩ := hc
 simp only [Value.cells] at h1 h2
 refine .agg cs _ (λ j => (cs[j]?).getD undef) (by simpa using h1) (λ j hj => ?_) (λ j u hu => ?_)
 ·obtain ⟨u, hu, h3, _⟩ := h2 j _ (getElem?_eq_getElem hj)
  have hu : cs[j]? = some u := by simpa using hu
  rw [hu]
  exact ⟨rfl, h3⟩
 ·obtain ⟨u', hu', _, h4⟩ := h2 j u hu
  have hu' : cs[j]? = some u' := by simpa using hu'
  rw [hu']
  exact h4
end
theorem jO {w w' : World} (h : Keeps (λ _ => False) w w') : Below w.heap.size w w' := ⟨h.os, h.tape, h.output, h.size, λ b hb => h.block b hb id⟩
theorem pv {P : Program} {G : Nat -> AV} {f : FuncId} {p : List AV -> Option (Prop × AV)} (h : PureOK P G f p) {w : World} {args : Array Value} {avs : List AV} {ob : Prop} {b : Bool} (hG : ∀ g, GV P w (λ _ => False) g (G g))
  (harg : ∀ (j : Nat) (u : AV), avs[j]? = some u -> ∃ v, args[j]? = some v /\ RepD w (λ _ => False) v u) (hsz : args.size = avs.length) (hp : p avs = some (ob, .bool b)) (hob : ob) :
  Calls P f args w λ e w' => e = .returned (.bool b) /\ Below w.heap.size w w' :=
 (h w (λ _ => False) args avs ob (.bool b) (λ _ h => h.elim) hG hsz harg hp hob).mono λ e w' ⟨v, he, hk, hr⟩ => by
  cases hr
  exact ⟨he, jO hk⟩
theorem qX {P : Program} {G : Nat -> AV} {f : FuncId} {p : List AV -> Option (Prop × AV)} (h : PureOK P G f p) {w : World} {args : Array Value} {avs : List AV} {ob : Prop} {b : Bool} (hG : ∀ g, RepD w (λ _ => False) (.pointer (some ⟨g, 0, none⟩)) (G g))
  (harg : ∀ (j : Nat) (u : AV), avs[j]? = some u -> ∃ v, args[j]? = some v /\ RepD w (λ _ => False) v u) (hsz : args.size = avs.length) (hp : p avs = some (ob, .bool b)) (hob : ob) :
  Calls P f args w λ e w' => e = .returned (.bool b) /\ Below w.heap.size w w' :=
 (h w (λ _ => False) args avs ob (.bool b) (λ _ h => h.elim) (λ g => GV.of_rep (hG g)) hsz harg hp hob).mono λ e w' ⟨v, he, hk, hr⟩ => by
  cases hr
  exact ⟨he, jO hk⟩
theorem Rb {w : World} {v : Value} {a : AV} (h : RepD w (λ _ => False) v a) : ∀ (j : Nat) (u : AV), [a][j]? = some u -> ∃ x, #[v][j]? = some x /\ RepD w (λ _ => False) x u
 | 0, u, hu => by simp at hu; subst hu; exact ⟨v, rfl, h⟩
 | j + 1, u, hu => by simp at hu
theorem Rc {w : World} {v v1 : Value} {a a1 : AV} (h : RepD w (λ _ => False) v a) (h1 : RepD w (λ _ => False) v1 a1) : ∀ (j : Nat) (u : AV), [a, a1][j]? = some u -> ∃ x, #[v, v1][j]? = some x /\ RepD w (λ _ => False) x u
 | 0, u, hu => by simp at hu; subst hu; exact ⟨v, rfl, h⟩
 | 1, u, hu => by simp at hu; subst hu; exact ⟨v1, rfl, h1⟩
 | j + 2, u, hu => by simp at hu
open Go.RowKit
def bs (l : List UInt8) : ByteArray := ⟨l.toArray⟩
theorem HI {s t : ByteArray} (h : s.size = t.size) (hb : ∀ i, i < s.size -> btA s i = btA t i) : s = t := by
 refine ByteArray.ext (Array.ext h λ i h1 h2 => ?_)
 have := hb i h1
 simp only [btA, List.getD_eq_getElem?_getD, Array.getElem?_toList, Array.getElem?_eq_getElem h1, Array.getElem?_eq_getElem h2, Option.getD_some] at this
 exact UInt8.toNat_inj.1 this
theorem bH {C : Ctx} {N h0 : Nat} {ρ ρ' : List (Nat × AV)} {H H' : List Blk} (m : Nat) (h : ∀ p ∈ ρ', aQ ρ p.1 = p.2) (hm : h0 <= m) (hρ : ∀ p ∈ ρ', p.2.clean m = true) (hH : ∀ b ∈ H.take m, b.deep = true ∨ ∀ r ∈ b.rows, ∀ c ∈ r, c.clean m = true) (hE : H.take m = H') : Weak C N h0 ⟨ρ, H⟩ ⟨ρ', H'⟩ := by
 subst hE
 exact (ar h).trans (B7 m hm hρ hH)
@[simp] theorem KU (r : List AV) (rs : List (List AV)) : dq (r :: rs) 0 = r := rfl
@[simp] theorem KV (r : List AV) (rs : List (List AV)) (i : Nat) : dq (r :: rs) (i + 1) = dq rs i := rfl
@[simp] theorem NM {α : Type} [Enc α] (sz : Nat) (f : Bool) (r : List AV) (rows : List (List AV)) : (Enc.dec (.slice sz f (r :: rows)) : List α) = Enc.unc r :: Enc.dec (.slice sz f rows) := rfl
@[simp] theorem PO (k : IntKind) (n : Int) : (Enc.unc [.int k n] : Int) = n := rfl
@[simp] theorem PP (n : ByteArray) : (Enc.unc [.str n] : ByteArray) = n := rfl
@[simp] theorem O5 {α : Type} [Enc α] (sz : Nat) (f : Bool) (rows : List (List AV)) : (Enc.unc [.slice sz f rows] : List α) = Enc.dec (.slice sz f rows) := rfl
section
variable {P : Program} {G : Nat -> AV} {f : FuncId} {w : World} (hG : ∀ g, RepD w (λ _ => False) (.pointer (some ⟨g, 0, none⟩)) (G g))
include hG
theorem calls2 {α β : Type} [Enc α] [Enc β] {pre : α -> β -> Prop} {b : Bool} (h : PureOK P G f (aW pre λ _ _ => .bool b)) {v0 v1 : Value} {a0 : α} {a1 : β} (r0 : RepD w (λ _ => False) v0 (Enc.enc a0)) (r1 : RepD w (λ _ => False) v1 (Enc.enc a1))
  (n0 : bq (Enc.enc a0) = Enc.enc a0) (n1 : bq (Enc.enc a1) = Enc.enc a1) (hp : pre a0 a1) : Calls P f #[v0, v1] w λ e w' => e = .returned (.bool b) /\ Below w.heap.size w w' :=
 qX h (avs := [Enc.enc a0, Enc.enc a1]) (ob := bq (Enc.enc a0) = Enc.enc a0 /\ bq (Enc.enc a1) = Enc.enc a1 /\ pre a0 a1) hG (Rc r0 r1) rfl (by simp only [aW, Enc.dec_enc]) ⟨n0, n1, hp⟩
end
section
variable {C : Ctx} {N h0 : Nat}
theorem oS {a b : Code} {st : ASt} {Q : Exit -> ASt -> Prop} (h : AW C N h0 a st (rf (λ st' => AW C N h0 b st' Q) Q)) : AW C N h0 (.seq a b) st Q := λ X w0 β0 H0 x w hl hr => by
 refine wp_seq (Code.wp_mono (λ ex a' w' ⟨st', hq, hr'⟩ => ?_) (h X w0 β0 H0 x w hl hr))
 cases ex with
 | normal => exact hq X w0 β0 H0 a' w' hl hr'
 | _ => exact ⟨st', hq, hr'⟩
theorem lK {id : Nat} {b : Code} {st : ASt} {Q : Exit -> ASt -> Prop} (h : AW C N h0 b st (iQ id Q)) : AW C N h0 (.block id b) st Q := λ X w0 β0 H0 x w hl hr => by
 refine wp_block (Code.wp_mono (λ ex a' w' ⟨st', hq, hr'⟩ => ?_) (h X w0 β0 H0 x w hl hr))
 cases ex with
 | exit j =>
  simp only [Exit.inBlock, iQ] at hq ⊢
  split
  ·rename_i e; rw [if_pos e] at hq; exact ⟨st', hq, hr'⟩
  ·rename_i e; rw [if_neg e] at hq; exact ⟨st', hq, hr'⟩
 | _ => exact ⟨st', hq, hr'⟩
theorem gV {α : Type} {body : Code} {st : ASt} {Q : Exit -> ASt -> Prop} (Sf : α -> ASt) (pre : α -> Prop) (m : α -> Nat)
  (start : ∃ x, pre x /\ Weak C N h0 st (Sf x)) (step : ∀ x, pre x -> AW C N h0 body (Sf x) (round Sf pre (λ x' => m x' < m x) N h0 C Q)) : AW C N h0 (.loop body) st Q := by
 intro X w0 β0 H0 a w hl hr
 obtain ⟨x0, hx0, hw0⟩ := start
 refine wp_loop_ghost (λ n a w => ∃ x, m x = n /\ pre x /\ Rel C N X w0 β0 H0 (Sf x) a w) (m x0) ⟨x0, rfl, hx0, hw0 X w0 β0 H0 a w hl hr⟩ ?_
 rintro n a w ⟨x, rfl, hx, hr⟩
 refine Code.wp_mono (λ ex a' w' ⟨st', hq, hr'⟩ => ?_) (step x hx X w0 β0 H0 a w hl hr)
 cases ex with
 | normal =>
  obtain ⟨x', hx', hlt, hw⟩ := hq
  exact ⟨m x', hlt, x', rfl, hx', hw X w0 β0 H0 a' w' hl hr'⟩
 | _ => exact ⟨st', hq, hr'⟩
theorem dZ {f : FuncId} {fn : Func} {body : Code} {rs : List ResultVar} {n : Nat} (hf : C.P.funcs[f]? = some fn) (hb : fn.body = some body) (hrs : fn.results.toList = rs) (hn : fn.ntmps = n) {p : List AV -> Option (Prop × AV)}
  (h : ∀ avs ob r, p avs = some (ob, r) -> ob -> avs.length <= n /\ AW C n 0 body ⟨argsρ 0 (avs.map bq), []⟩ (fY C rs r)) : PureOK C.P C.G f p := by
 subst hrs hn
 intro w X args avs0 ob r hX hG hsz0 harg0 hp hob
 obtain ⟨hlen0, hav0⟩ := h avs0 ob r hp hob
 generalize havs : avs0.map bq = avs at hav0
 have hlen : avs.length <= fn.ntmps := by rw [<- havs]; simpa using hlen0
 have hsz : args.size = avs.length := by rw [<- havs]; simpa using hsz0
 have harg : ∀ (j : Nat) (u : AV), avs[j]? = some u -> ∃ v, args[j]? = some v /\ RepD w X v u := λ j u hu => by
  rw [<- havs, getElem?_map] at hu
  simp only [map_eq_some_iff] at hu
  obtain ⟨av, hav, rfl⟩ := hu
  obtain ⟨v, h1, h2⟩ := harg0 j av hav
  exact ⟨v, h1, dM h2⟩
 refine calls_of_wp hf hb ?_
 have hMu : ∀ b, Mu X [] [] b -> X b := by
  rintro b (h | ⟨l, c, blk, h1, _, _⟩)
  ·exact h
  ·simp at h1
 have R : HRel w X [] [] := ⟨rfl, λ l bi b h1 _ => by simp at h1, λ l b c h1 => by simp at h1, λ l l' b c c' h1 => by simp at h1, hX⟩
 have hr : Rel C fn.ntmps X w [] [] ⟨argsρ 0 avs, []⟩ { tmps := args ++ Array.replicate (fn.ntmps - args.size) undef, defers := [] } w :=
  ⟨[], R, StepR.refl _ _ _ rfl, ed hsz (λ j u hj => let ⟨v, h1, h2⟩ := harg j u hj; ⟨v, h1, .deep (h2.mono λ b _ hb => hMu b hb)⟩), λ g => (hG g).mono λ b _ hb => hMu b hb, by simp; omega, rfl⟩
 refine Code.wp_mono (λ ex a' w' ⟨st', hq, hr'⟩ => ?_) (hav0 X w [] [] _ w rfl hr)
 have fin : vO C fn.results.toList r st' -> bodyPost C.P fn (λ e w' => ∃ v, e = .returned v /\ Keeps (λ _ => False) w w' /\ RepD w' X v r) .normal a' w' := by
  unfold vO
  split
  ·rename_i ob' r' hres
   rintro ⟨hob', hview⟩
   obtain ⟨β', R', S', T', G', hN', hdef'⟩ := hr'
   obtain ⟨u, hu, hrep⟩ := ck R' T' hres hob'
   have hv := (cw R' (λ _ => True) 6 hrep (λ _ _ => trivial)).mono (X' := X) λ b _ hb => .inl hb
   have hv := dM hv
   rw [hview] at hv
   exact ⟨hdef', u, hu, u, rfl, S'.keeps.weaken (λ b _ h => by obtain ⟨l, c, blk, h1, _, _⟩ := h; simp at h1), hv⟩
  ·intro h; exact h.elim
 cases ex with
 | normal => exact fin hq
 | ret => exact fin hq
 | _ => exact hq.elim
theorem KN {α β : Type} [Enc α] [Enc β] {f : FuncId} {fn : Func} {body : Code} {rs : List ResultVar} {n : Nat} (hf : C.P.funcs[f]? = some fn) (hb : fn.body = some body) (hrs : fn.results.toList = rs) (hn : fn.ntmps = n) (hnn : 2 <= n) {pre : α -> β -> Prop} {res : α -> β -> AV} (h : ∀ a b, pre a b -> AW C n 0 body ⟨[(0, Enc.enc a), (1, Enc.enc b)], []⟩ (fY C rs (res a b))) : PureOK C.P C.G f (aW pre res) :=
 dZ hf hb hrs hn λ avs ob r' hp hob => by
  unfold aW at hp
  split at hp
  ·injection hp with hp; injection hp with e1 e2; subst e1 e2
   refine ⟨hnn, ?_⟩
   have := h _ _ hob.2.2
   rw [<- hob.1, <- hob.2.1] at this
   exact this
  ·cases hp
end
set_option linter.unusedVariables false
section
variable {C : Ctx} {N h0 : Nat}
def cG (C : Ctx) (st : ASt) (o : Oper) (v : AV) : Prop := iu (aL C st o) λ ob v' _ => v' = v /\ ob
structure RdE where
 i : Nat
 o : Oper
 ρ : List (Nat × AV)
 v : AV
def qY (C : Ctx) (o : Oper) (v : AV) (ρ : List (Nat × AV)) (bs : List Nat) : List (Nat × List Blk) -> Prop
 | [] => True
 | (e, He) :: r => (bs.contains e = true ∨ cG C ⟨ρ, He⟩ o v) /\ qY C o v ρ bs r
def pw (C : Ctx) (H : List Blk) (bs : List Nat) : List RdE -> Prop
 | [] => True
 | p :: r => (bs.contains p.i = true ∨ cG C ⟨p.ρ, H⟩ p.o p.v) /\ pw C H bs r
def de (C : Ctx) (ops : Array Oper) : Nat -> List Oper -> List Kd -> List (List Nat) -> List (Nat × List Blk) -> List RdE -> ASt -> (ASt -> Prop) -> Prop
 | _, [], _, _, _, _, st, K => K st
 | i, o :: r, .pure :: ks, d :: ds, hist, rd, st, K => lh (b9 ops st.ρ o) λ g => iz g (iu (aL C st o) λ ob v H' => ob /\ de C ops (i + 1) r ks ds hist rd ⟨dP st.ρ o.dst v, H'⟩ K) (de C ops (i + 1) r ks ds hist rd ⟨dP st.ρ o.dst (.tup []), st.H⟩ K)
 | i, o :: r, .read :: ks, d :: ds, hist, rd, st, K => lh (b9 ops st.ρ o) λ g => iz g (iu (aL C st o) λ ob v H' => ob /\ qY C o v st.ρ d hist /\ de C ops (i + 1) r ks ds hist (⟨i, o, st.ρ, v⟩ :: rd) ⟨dP st.ρ o.dst v, H'⟩ K) (de C ops (i + 1) r ks ds hist rd ⟨dP st.ρ o.dst (.tup []), st.H⟩ K)
 | i, o :: r, .eff :: ks, d :: ds, hist, rd, st, K => lh (b9 ops st.ρ o) λ g => iz g (iu (aL C st o) λ ob v H' => ob /\ pw C H' d rd /\ de C ops (i + 1) r ks ds ((i, st.H) :: hist) rd ⟨dP st.ρ o.dst v, H'⟩ K) (de C ops (i + 1) r ks ds hist rd ⟨dP st.ρ o.dst (.tup []), st.H⟩ K)
 | _, _ :: _, _, _, _, _, _, _ => False
@[congr] theorem FF {C : Ctx} {st st' : ASt} {o : Oper} {v : AV} (h : eH st = st') : cG C st o v = cG C st' o v := by rw [bK] at h; rw [h]
@[congr] theorem Jx {C : Ctx} {o : Oper} {v : AV} {ρ : List (Nat × AV)} {bs : List Nat} {l l' : List (Nat × List Blk)} (h : eH l = l') : qY C o v ρ bs l = qY C o v ρ bs l' := by rw [bK] at h; rw [h]
@[congr] theorem Jw {C : Ctx} {H : List Blk} {bs : List Nat} {l l' : List RdE} (h : eH l = l') : pw C H bs l = pw C H bs l' := by rw [bK] at h; rw [h]
@[congr] theorem H8 {C : Ctx} {ops : Array Oper} {i : Nat} {l : List Oper} {ks : List Kd} {ds : List (List Nat)} {hist : List (Nat × List Blk)} {rd : List RdE} {st st' : ASt} {K : ASt -> Prop} (h : eH st = st') : de C ops i l ks ds hist rd st K = de C ops i l ks ds hist rd st' K := by rw [bK] at h; rw [h]
@[simp] theorem yV (st : ASt) (o : Oper) (v : AV) : cG C st o v = iu (aL C st o) λ ob v' _ => v' = v /\ ob := rfl
@[simp] theorem Nx (o : Oper) (v : AV) (ρ : List (Nat × AV)) (bs : List Nat) : qY C o v ρ bs [] = True := rfl
@[simp] theorem A6 (o : Oper) (v : AV) (ρ : List (Nat × AV)) (bs : List Nat) (e : Nat) (He : List Blk) (r : List (Nat × List Blk)) : qY C o v ρ bs ((e, He) :: r) = ((bs.contains e = true ∨ cG C ⟨ρ, He⟩ o v) /\ qY C o v ρ bs r) := rfl
@[simp] theorem Nw (H : List Blk) (bs : List Nat) : pw C H bs [] = True := rfl
@[simp] theorem Mx (H : List Blk) (bs : List Nat) (i : Nat) (o : Oper) (ρ : List (Nat × AV)) (v : AV) (r : List RdE) : pw C H bs (⟨i, o, ρ, v⟩ :: r) = ((bs.contains i = true ∨ cG C ⟨ρ, H⟩ o v) /\ pw C H bs r) := rfl
@[simp] theorem rz (ops : Array Oper) (i : Nat) (ks : List Kd) (ds : List (List Nat)) (hist : List (Nat × List Blk)) (rd : List RdE) (st : ASt) (K : ASt -> Prop) : de C ops i [] ks ds hist rd st K = K st := by rw [de]
@[simp] theorem ln (ops : Array Oper) (i : Nat) (o : Oper) (r : List Oper) (ks : List Kd) (d : List Nat) (ds : List (List Nat)) (hist : List (Nat × List Blk)) (rd : List RdE) (st : ASt) (K : ASt -> Prop) : de C ops i (o :: r) (.pure :: ks) (d :: ds) hist rd st K = lh (b9 ops st.ρ o) λ g => iz g (iu (aL C st o) λ ob v H' => ob /\ de C ops (i + 1) r ks ds hist rd ⟨dP st.ρ o.dst v, H'⟩ K) (de C ops (i + 1) r ks ds hist rd ⟨dP st.ρ o.dst (.tup []), st.H⟩ K) := by rw [de]
@[simp] theorem lp (ops : Array Oper) (i : Nat) (o : Oper) (r : List Oper) (ks : List Kd) (d : List Nat) (ds : List (List Nat)) (hist : List (Nat × List Blk)) (rd : List RdE) (st : ASt) (K : ASt -> Prop) : de C ops i (o :: r) (.read :: ks) (d :: ds) hist rd st K = lh (b9 ops st.ρ o) λ g => iz g (iu (aL C st o) λ ob v H' => ob /\ qY C o v st.ρ d hist /\ de C ops (i + 1) r ks ds hist (⟨i, o, st.ρ, v⟩ :: rd) ⟨dP st.ρ o.dst v, H'⟩ K) (de C ops (i + 1) r ks ds hist rd ⟨dP st.ρ o.dst (.tup []), st.H⟩ K) := by rw [de]
@[simp] theorem mJ (ops : Array Oper) (i : Nat) (o : Oper) (r : List Oper) (ks : List Kd) (d : List Nat) (ds : List (List Nat)) (hist : List (Nat × List Blk)) (rd : List RdE) (st : ASt) (K : ASt -> Prop) : de C ops i (o :: r) (.eff :: ks) (d :: ds) hist rd st K = lh (b9 ops st.ρ o) λ g => iz g (iu (aL C st o) λ ob v H' => ob /\ pw C H' d rd /\ de C ops (i + 1) r ks ds ((i, st.H) :: hist) rd ⟨dP st.ρ o.dst v, H'⟩ K) (de C ops (i + 1) r ks ds hist rd ⟨dP st.ρ o.dst (.tup []), st.H⟩ K) := by rw [de]
theorem vq {o : Oper} {v : AV} {ρ : List (Nat × AV)} {bs : List Nat} : ∀ {l : List (Nat × List Blk)}, qY C o v ρ bs l -> ∀ p ∈ l, p.1 ∉ bs -> cG C ⟨ρ, p.2⟩ o v
 | [], _, p, hp => by cases hp
 | (e, He) :: r, h, p, hp => λ hn => by
  rw [A6] at h
  rcases mem_cons.1 hp with rfl | hp
  ·exact h.1.resolve_left λ h2 => hn (List.contains_iff_mem.1 h2)
  ·exact vq h.2 p hp hn
theorem vo {H : List Blk} {bs : List Nat} : ∀ {l : List RdE}, pw C H bs l -> ∀ p ∈ l, p.i ∉ bs -> cG C ⟨p.ρ, H⟩ p.o p.v
 | [], _, p, hp => by cases hp
 | q :: r, h, p, hp => λ hn => by
  unfold pw at h
  rcases mem_cons.1 hp with rfl | hp
  ·exact h.1.resolve_left λ h2 => hn (List.contains_iff_mem.1 h2)
  ·exact vo h.2 p hp hn
structure TrF (C : Ctx) (ops : Array Oper) (B : Nat -> List Nat) (k : Nat) (hist : List (Nat × List Blk)) (rd : List RdE) (v : Nat -> AV) (ρ : Nat -> List (Nat × AV)) (H : Nat -> List Blk) : Prop where
 a : ∀ j, k <= j -> j < ops.size -> bT C (aO ops j) = .read -> b9 ops (ρ j) (aO ops j) = some true -> ∀ p ∈ hist, p.1 ∉ B j -> cG C ⟨ρ j, p.2⟩ (aO ops j) (v j)
 b : ∀ j, k <= j -> j < ops.size -> bT C (aO ops j) = .eff -> b9 ops (ρ j) (aO ops j) = some true -> ∀ p ∈ rd, p.i ∉ B j -> cG C ⟨p.ρ, H (j + 1)⟩ p.o p.v
 c : ∀ e j, k <= e -> e < j -> j < ops.size -> bT C (aO ops e) = .eff -> b9 ops (ρ e) (aO ops e) = some true -> bT C (aO ops j) = .read -> b9 ops (ρ j) (aO ops j) = some true -> e ∉ B j -> cG C ⟨ρ j, H e⟩ (aO ops j) (v j)
 d : ∀ j e, k <= j -> j < e -> e < ops.size -> bT C (aO ops j) = .read -> b9 ops (ρ j) (aO ops j) = some true -> bT C (aO ops e) = .eff -> b9 ops (ρ e) (aO ops e) = some true -> j ∉ B e -> cG C ⟨ρ j, H (e + 1)⟩ (aO ops j) (v j)
theorem nu {ops : Array Oper} {B : Nat -> List Nat} : ∀ (l : List Oper) (ks : List Kd) (ds : List (List Nat)) (k : Nat) (hist : List (Nat × List Blk)) (rd : List RdE) (st : ASt) (K : ASt -> Prop), (∀ j : Nat, l[j]? = ops[k + j]?) -> (∀ (j : Nat) (x : Kd), ks[j]? = some x -> k + j < ops.size -> bT C (aO ops (k + j)) = x) -> (∀ (j : Nat) (x : List Nat), ds[j]? = some x -> B (k + j) = x) -> k <= ops.size -> de C ops k l ks ds hist rd st K ->
  ∃ v ρ H, Trace C ops k st v ρ H /\ TrF C ops B k hist rd v ρ H /\ K ⟨ρ ops.size, H ops.size⟩
 | [], ks, ds, k, hist, rd, st, K, hl, hks, hds, hk, h => by
  have h0 := hl 0
  simp at h0
  have : k = ops.size := by omega
  subst this
  rw [rz] at h
  exact ⟨λ _ => .undef, λ _ => st.ρ, λ _ => st.H, ⟨rfl, rfl, λ i h1 h2 => by omega⟩, ⟨λ j h1 h2 => by omega, λ j h1 h2 => by omega, λ e j h1 h2 h3 => by omega, λ e j h1 h2 h3 => by omega⟩, h⟩
 | o :: r, [], ds, k, hist, rd, st, K, hl, hks, hds, hk, h => by unfold de at h; exact h.elim
 | o :: r, kd :: ks, [], k, hist, rd, st, K, hl, hks, hds, hk, h => by cases kd <;> (unfold de at h; exact h.elim)
 | o :: r, kd :: ks, d :: ds, k, hist, rd, st, K, hl, hks, hds, hk, h => by
  have hl0 := hl 0
  simp only [List.getElem?_cons_zero, add_zero] at hl0
  have hlt : k < ops.size := (Array.getElem?_eq_some_iff.1 hl0.symm).1
  have ho : aO ops k = o := by simp [aO, Array.getD_eq_getD_getElem?, <- hl0]
  have hkd : bT C (aO ops k) = kd := by have := hks 0 kd rfl (by omega); simpa using this
  have hBk : B k = d := by have := hds 0 d rfl; simpa using this
  have hl' : ∀ j : Nat, r[j]? = ops[k + 1 + j]? := λ j => by have := hl (j + 1); rwa [List.getElem?_cons_succ, show k + (j + 1) = k + 1 + j by omega] at this
  have hks' : ∀ (j : Nat) (x : Kd), ks[j]? = some x -> k + 1 + j < ops.size -> bT C (aO ops (k + 1 + j)) = x := λ j x hx hj => by have := hks (j + 1) x (by simpa using hx) (by omega); rwa [show k + (j + 1) = k + 1 + j by omega] at this
  have hds' : ∀ (j : Nat) (x : List Nat), ds[j]? = some x -> B (k + 1 + j) = x := λ j x hx => by have := hds (j + 1) x (by simpa using hx); rwa [show k + (j + 1) = k + 1 + j by omega] at this
  -- the rest, put behind this operation
  have fin : ∀ (g : Bool) (vk : AV) (Hk : List Blk) (hist' : List (Nat × List Blk)) (rd' : List RdE), b9 ops st.ρ o = some g -> ((g = true -> ∃ ob, aL C ⟨st.ρ, st.H⟩ o = some (ob, vk, Hk) /\ ob) /\ (g = false -> vk = .tup [] /\ Hk = st.H)) ->
    (g = true -> kd = .read -> ∀ p ∈ hist, p.1 ∉ d -> cG C ⟨st.ρ, p.2⟩ o vk) -> (g = true -> kd = .eff -> ∀ p ∈ rd, p.i ∉ d -> cG C ⟨p.ρ, Hk⟩ p.o p.v) ->
    (∀ p ∈ hist, p ∈ hist') -> (∀ p ∈ rd, p ∈ rd') -> (g = true -> kd = .eff -> (k, st.H) ∈ hist') -> (g = true -> kd = .read -> (⟨k, o, st.ρ, vk⟩ : RdE) ∈ rd') ->
    de C ops (k + 1) r ks ds hist' rd' ⟨dP st.ρ o.dst vk, Hk⟩ K -> ∃ v ρ H, Trace C ops k st v ρ H /\ TrF C ops B k hist rd v ρ H /\ K ⟨ρ ops.size, H ops.size⟩ := by
   intro g vk Hk hist' rd' hg hst hcr hce hih hird hpe hpr hr
   obtain ⟨v, ρ, H, hT, hF, hK⟩ := nu r ks ds (k + 1) hist' rd' _ K hl' hks' hds' (by omega) hr
   have hH1 : H (k + 1) = Hk := hT.H0
   have hgw : ∀ g', b9 ops st.ρ o = some g' -> g' = g := λ g' h => by rw [hg] at h; injection h with h; exact h.symm
   refine ⟨λ i => if i = k then vk else v i, λ i => if i = k then st.ρ else ρ i, λ i => if i = k then st.H else H i, ⟨by simp, by simp, λ i h1 h2 => ?_⟩, ⟨λ j h1 h2 h3 h4 p hp hn => ?_, λ j h1 h2 h3 h4 p hp hn => ?_, λ e j h1 h2 h3 h4 h5 h6 h7 h8 => ?_, λ j e h1 h2 h3 h4 h5 h6 h7 h8 => ?_⟩, ?_⟩
   ·by_cases e : i = k
    ·subst e
     refine ⟨g, by rw [ho, if_pos rfl]; exact hg, λ hgt => ?_, λ hgf => ?_, ?_⟩
     ·simp only [if_true, ho, succ_ne_self, if_false, hT.H0]
      exact hst.1 hgt
     ·simp only [if_true, succ_ne_self, if_false, hT.H0]
      exact hst.2 hgf
     ·simp only [if_true, ho, succ_ne_self, if_false, hT.ρ0]
    ·have := hT.step i (by omega) h2
     simp only [e, if_false, show ¬ i + 1 = k by omega]
     exact this
   ·by_cases e : j = k
    ·subst e
     simp only [if_true, ho] at h3 h4 ⊢
     have hg1 := hgw _ h4
     rw [ho] at hkd
     exact hcr hg1.symm (by rw [<- hkd]; exact h3) p hp (by rw [<- hBk]; exact hn)
    ·simp only [e, if_false] at h4 ⊢
     exact hF.a j (by omega) h2 h3 h4 p (hih p hp) hn
   ·by_cases e : j = k
    ·subst e
     simp only [if_true, ho] at h3 h4
     have hg1 := hgw _ h4
     rw [ho] at hkd
     simp only [succ_ne_self, if_false, hH1]
     exact hce hg1.symm (by rw [<- hkd]; exact h3) p hp (by rw [<- hBk]; exact hn)
    ·simp only [e, if_false] at h4
     simp only [show ¬ j + 1 = k by omega, if_false]
     exact hF.b j (by omega) h2 h3 h4 p (hird p hp) hn
   ·have ej : ¬ j = k := by omega
    simp only [ej, if_false] at h7 ⊢
    by_cases e' : e = k
    ·subst e'
     simp only [if_true, ho] at h4 h5 ⊢
     have hg1 := hgw _ h5
     rw [ho] at hkd
     exact hF.a j (by omega) h3 h6 h7 (e, st.H) (hpe hg1.symm (by rw [<- hkd]; exact h4)) h8
    ·simp only [e', if_false] at h5 ⊢
     exact hF.c e j (by omega) h2 h3 h4 h5 h6 h7 h8
   ·have ee : ¬ e = k := by omega
    have ee1 : ¬ e + 1 = k := by omega
    simp only [ee, ee1, if_false] at h7 ⊢
    by_cases e' : j = k
    ·subst e'
     simp only [if_true, ho] at h4 h5 ⊢
     have hg1 := hgw _ h5
     rw [ho] at hkd
     exact hF.b e (by omega) h3 h6 h7 ⟨j, o, st.ρ, vk⟩ (hpr hg1.symm (by rw [<- hkd]; exact h4)) h8
    ·simp only [e', if_false] at h5 ⊢
     exact hF.d j e (by omega) h2 h3 h4 h5 h6 h7 h8
   ·have e : ¬ ops.size = k := by omega
    simpa only [e, if_false] using hK
  have mem1 : ∀ {α : Type} {x : α} {l : List α}, ∀ p ∈ l, p ∈ x :: l := λ p hp => mem_cons_of_mem _ hp
  cases kd with
  | pure =>
   rw [ln] at h
   cases hg : b9 ops st.ρ o with
   | none => rw [hg] at h; exact h.elim
   | some g =>
    rw [hg] at h
    simp only [jx] at h
    cases g with
    | true =>
     simp only [mL] at h
     cases hs : aL C st o with
     | none => rw [hs] at h; exact h.elim
     | some q =>
      obtain ⟨ob, vk, Hk⟩ := q
      rw [hs] at h
      exact fin true vk Hk hist rd hg ⟨λ _ => ⟨ob, hs, h.1⟩, λ h => by cases h⟩ (λ _ h => by cases h) (λ _ h => by cases h) (λ _ h => h) (λ _ h => h) (λ _ h => by cases h) (λ _ h => by cases h) h.2
    | false =>
     simp only [lv] at h
     exact fin false (.tup []) st.H hist rd hg ⟨λ h => (by cases h), λ _ => ⟨rfl, rfl⟩⟩ (λ h => by cases h) (λ h => by cases h) (λ _ h => h) (λ _ h => h) (λ h => by cases h) (λ h => by cases h) h
  | read =>
   rw [lp] at h
   cases hg : b9 ops st.ρ o with
   | none => rw [hg] at h; exact h.elim
   | some g =>
    rw [hg] at h
    simp only [jx] at h
    cases g with
    | true =>
     simp only [mL] at h
     cases hs : aL C st o with
     | none => rw [hs] at h; exact h.elim
     | some q =>
      obtain ⟨ob, vk, Hk⟩ := q
      rw [hs] at h
      exact fin true vk Hk hist _ hg ⟨λ _ => ⟨ob, hs, h.1⟩, λ h => by cases h⟩ (λ _ _ => vq h.2.1) (λ _ h => by cases h) (λ _ h => h) mem1 (λ _ h => by cases h) (λ _ _ => by simp) h.2.2
    | false =>
     simp only [lv] at h
     exact fin false (.tup []) st.H hist rd hg ⟨λ h => (by cases h), λ _ => ⟨rfl, rfl⟩⟩ (λ h => by cases h) (λ h => by cases h) (λ _ h => h) (λ _ h => h) (λ h => by cases h) (λ h => by cases h) h
  | eff =>
   rw [mJ] at h
   cases hg : b9 ops st.ρ o with
   | none => rw [hg] at h; exact h.elim
   | some g =>
    rw [hg] at h
    simp only [jx] at h
    cases g with
    | true =>
     simp only [mL] at h
     cases hs : aL C st o with
     | none => rw [hs] at h; exact h.elim
     | some q =>
      obtain ⟨ob, vk, Hk⟩ := q
      rw [hs] at h
      exact fin true vk Hk _ rd hg ⟨λ _ => ⟨ob, hs, h.1⟩, λ h => by cases h⟩ (λ _ h => by cases h) (λ _ _ => vo h.2.1) mem1 (λ _ h => h) (λ _ _ => by simp) (λ _ h => by cases h) h.2.2
    | false =>
     simp only [lv] at h
     exact fin false (.tup []) st.H hist rd hg ⟨λ h => (by cases h), λ _ => ⟨rfl, rfl⟩⟩ (λ h => by cases h) (λ h => by cases h) (λ _ h => h) (λ _ h => h) (λ h => by cases h) (λ h => by cases h) h
section
variable {ops : Array Oper} {B : Nat -> List Nat} {st : ASt} {v : Nat -> AV} {ρ : Nat -> List (Nat × AV)} {H : Nat -> List Blk}
theorem pL (T : Trace C ops 0 st v ρ H) {i : Nat} (hi : i < ops.size) (h : ¬ (bT C (aO ops i) = .eff /\ b9 ops (ρ i) (aO ops i) = some true)) : H (i + 1) = H i := by
 obtain ⟨g, hg, hst, hsk, _⟩ := T.step i (zero_le _) hi
 cases g with
 | false => exact (hsk rfl).2
 | true => exact sJ T hi (by
   unfold cF
   cases hk : bT C (aO ops i) with
   | eff => exact absurd ⟨hk, hg⟩ h
   | _ => rfl)
theorem vZ (T : Trace C ops 0 st v ρ H) : ∀ d k, k + d <= ops.size -> H k = H (k + d) ∨ ∃ e, k <= e /\ e < k + d /\ bT C (aO ops e) = .eff /\ b9 ops (ρ e) (aO ops e) = some true /\ H k = H e
 | 0, k, _ => .inl rfl
 | d + 1, k, hk => by
  by_cases h : bT C (aO ops k) = .eff /\ b9 ops (ρ k) (aO ops k) = some true
  ·exact .inr ⟨k, le_refl _, by omega, h.1, h.2, rfl⟩
  ·have h1 := pL T (by omega) h
   rcases vZ T d (k + 1) (by omega) with h2 | ⟨e, h2, h3, h4, h5, h6⟩
   ·left; rw [<- h1, h2]; congr 1; omega
   ·exact .inr ⟨e, by omega, by omega, h4, h5, by rw [<- h1, h6]⟩
theorem vY (T : Trace C ops 0 st v ρ H) : ∀ d i, i + d <= ops.size -> H (i + d) = H i ∨ ∃ e, i <= e /\ e < i + d /\ bT C (aO ops e) = .eff /\ b9 ops (ρ e) (aO ops e) = some true /\ H (i + d) = H (e + 1)
 | 0, i, _ => .inl rfl
 | d + 1, i, hi => by
  by_cases h : bT C (aO ops (i + d)) = .eff /\ b9 ops (ρ (i + d)) (aO ops (i + d)) = some true
  ·exact .inr ⟨i + d, by omega, by omega, h.1, h.2, rfl⟩
  ·have h1 := pL T (i := i + d) (by omega) h
   rw [show i + (d + 1) = i + d + 1 by omega, h1]
   rcases vY T d i (by omega) with h2 | ⟨e, h2, h3, h4, h5, h6⟩
   ·exact .inl h2
   ·exact .inr ⟨e, by omega, by omega, h4, h5, h6⟩
theorem yW (T : Trace C ops 0 st v ρ H) (F : TrF C ops B 0 [] [] v ρ H) : xD C ops B v ρ H := by
 intro i k hi hk hkd hg h1 h2
 have use : ∀ H', H k = H' -> cG C ⟨ρ i, H'⟩ (aO ops i) (v i) -> ∃ ob, aL C ⟨ρ i, H k⟩ (aO ops i) = some (ob, v i, H k) /\ ob := by
  intro H' e h
  subst e
  unfold cG iu at h
  split at h
  ·rename_i ob v' H' hst
   obtain ⟨rfl, hob⟩ := h
   have := lr hkd hst
   subst this
   exact ⟨ob, hst, hob⟩
  ·exact h.elim
 have own : cG C ⟨ρ i, H i⟩ (aO ops i) (v i) := by
  obtain ⟨g, hg', hst, _, _⟩ := T.step i (zero_le _) hi
  rw [hg] at hg'; injection hg' with hg'; subst hg'
  obtain ⟨ob, hst, hob⟩ := hst rfl
  unfold cG iu
  rw [hst]
  exact ⟨rfl, hob⟩
 rcases Nat.le_total k i with hki | hki
 ·rcases vZ T (i - k) k (by omega) with h | ⟨e, e1, e2, e3, e4, e5⟩
  ·exact use (H i) (by rw [h]; congr 1; omega) own
  ·refine use (H e) e5 (F.c e i (zero_le _) (by omega) hi e3 e4 hkd hg λ hm => ?_)
   have := h1 e (by omega) (by simp [cF, e3]) hm
   omega
 ·rcases vY T (k - i) i (by omega) with h | ⟨e, e1, e2, e3, e4, e5⟩
  ·exact use (H i) (by rw [<- h]; congr 1; omega) own
  ·have hne : e ≠ i := λ h => by subst h; rw [hkd] at e3; cases e3
   refine use (H (e + 1)) (by rw [<- e5]; congr 1; omega) (F.d i e (zero_le _) (by omega) (by omega) hkd hg e3 e4 λ hm => ?_)
   have := h2 e (by omega) (by simp [cF, e3]) hm
   omega
end
def kinds (C : Ctx) (ops : Array Oper) : List Kd := ops.toList.map (bT C)
theorem aE (hS : aB C) (hM : C.P.follows .mixedOrders = true) {id : Nat} {l : List Oper} {st : ASt} {Q : Exit -> ASt -> Prop} (ks : List Kd) (ds : List (List Nat)) (hks : kinds C l.toArray = ks) (hds : xQ l [] = ds) (hok : yu C l.toArray = true) (hdd : (l.all λ o => match o.dst with | some d => decide (d < N) | none => true) = true)
  (h : de C l.toArray 0 l ks ds [] [] st (Q .normal)) : AW C N h0 (.region id l.toArray true) st Q := λ X w0 β0 H0 a w hl hr => by
 generalize hops : l.toArray = ops at *
 have hlo : ops.toList = l := by rw [<- hops]
 have hd : ∀ o ∈ ops.toList, ∀ d, o.dst = some d -> d < N := by
  intro o ho d hd
  rw [hlo] at ho
  have := all_eq_true.1 hdd o ho
  rw [hd] at this
  simpa using this
 have F := ud hok
 rw [hlo, hds] at F
 obtain ⟨v, ρ, H, T, hF, hK⟩ := nu (B := λ i => ds.getD i []) l ks ds 0 [] [] st (Q .normal) (λ j => by rw [<- hlo]; simp) (λ j x hx hj => by
  rw [<- hks] at hx
  unfold kinds at hx
  rw [getElem?_map, map_eq_some_iff] at hx
  obtain ⟨o, ho, rfl⟩ := hx
  have : aO ops (0 + j) = o := by
   unfold aO
   rw [zero_add, Array.getD_eq_getD_getElem?]
   rw [Array.getElem?_toList] at ho
   rw [ho]; rfl
  rw [this]) (λ j x hx => by simp [List.getD_eq_getElem?_getD, hx]) (zero_le _) h
 refine wp_region_any hM ?_
 obtain ⟨β, R, S0, Tr, G, hN, hdef⟩ := hr
 have hk : Keeps (λ _ => False) w { w with drawn := w.drawn + 1 } := Keeps.drew _ w
 have hr' : Rel C N X w0 β0 H0 ⟨st.ρ, st.H⟩ a { w with drawn := w.drawn + 1 } :=
  ⟨β, R.quiet hk, S0.trans (StepR.quiet hk R.len), λ t => (Tr t).keep (StepR.quiet hk R.len), λ g => (G g).keep (λ b hb hn => hk.block b hb (λ h => h)) hk.size (λ b _ h => h), hN, hdef⟩
 refine kE hS (λ i hi d hd' => ?_) T F (yW T hF) (λ a' w' hr => ⟨_, hK, hr⟩) ops.size (Array.replicate ops.size false) st.ρ st.H a _ (by simp) ?_ (Nat.le_trans List.countP_le_length (by simp)) hr'
 ·refine hd (aO ops i) ?_ d hd'
  unfold aO
  rw [Array.getD_eq_getD_getElem?, Array.getElem?_eq_getElem hi]
  exact Array.mem_toList_iff.2 (Array.getElem_mem hi)
 ·have hno : ∀ i, ¬ ((Array.replicate ops.size false).getD i false = true) := by
   intro i
   rw [Array.getD_eq_getD_getElem?]
   rcases lt_or_ge i ops.size with h | h
   ·simp [h]
   ·simp [Array.getElem?_eq_none (show (Array.replicate ops.size false).size <= i by simpa using h)]
  refine ⟨λ i _ h => absurd h (hno i), λ i _ h => absurd h (hno i), λ t _ => by rw [T.ρ0], λ k hk hsep => ?_⟩
  rw [<- T.H0]
  refine uD T (zero_le _) hk λ e he1 he2 => ⟨λ h => by omega, λ h => absurd ((hsep e he1 he2).2 h) (hno e)⟩
end
def lD (s : Nat -> Nat) : AV -> AV
 | .own l n => .own (s l) n
 | .osl l n z o k => .osl (s l) n z o k
 | .ptr l n z i f => .ptr (s l) n z i f
 | .mapo l => .mapo (s l)
 | v => v
def fK (s : Nat -> Nat) : AV -> AV
 | .tup cs => .tup (cs.map (lD s))
 | v => lD s v
def DT (s : Nat -> Nat) : AV -> AV
 | .agg cs => .agg (cs.map (fK s))
 | v => fK s v
def ren (s : Nat -> Nat) : AV -> AV
 | .tup vs => .tup (vs.map (DT s))
 | v => DT s v
def cK (s : Nat -> Nat) (b : Blk) : Blk := { b with rows := b.rows.map λ r => r.map (fK s) }
def okB (m : Nat) (b : Blk) : Bool := b.rows.all λ r => r.all λ c => c.clean1 m
def ok2 (m : Nat) : AV -> Bool
 | .agg cs => cs.all (AV.clean1 m)
 | v => v.clean1 m
def okR (m : Nat) : AV -> Bool
 | .tup vs => vs.all (ok2 m)
 | v => ok2 m v
theorem sk {w : World} {X : Nat -> Prop} {s : Nat -> Nat} {v : Value} {av : AV} (h : RepD w X v av) : lD s av = av := by
 cases h <;> rfl
theorem BL {w : World} {X : Nat -> Prop} {s : Nat -> Nat} {v : Value} {av : AV} (h : RepD w X v av) : fK s av = av := by
 cases h with
 | tup cs cells val hl hm hv =>
  show AV.tup (cells.map (lD s)) = .tup cells
  refine congrArg _ (ext_getElem? λ j => ?_)
  rw [getElem?_map]
  cases hj : cells[j]? with
  | none => rfl
  | some u => rw [map_some, sk (hv j u hj)]
 | _ => rfl
theorem p8 {w : World} {X : Nat -> Prop} {s : Nat -> Nat} {v : Value} {av : AV} (h : RepD w X v (lD s av)) : lD s av = av := by
 cases av <;> first | rfl | (unfold lD at h; cases h)
theorem yv {w : World} {X : Nat -> Prop} {s : Nat -> Nat} {v : Value} {av : AV} (h : RepD w X v (fK s av)) : fK s av = av := by
 cases av with
 | tup cs =>
  cases h with
  | tup vs _ val hl hm hv =>
   show AV.tup (cs.map (lD s)) = .tup cs
   refine congrArg _ (ext_getElem? λ j => ?_)
   rw [getElem?_map]
   cases hj : cs[j]? with
   | none => rfl
   | some u => rw [map_some, p8 (hv j (lD s u) (by rw [getElem?_map, hj]; rfl))]
 | _ => unfold fK at h ⊢; exact p8 h
section
variable {w : World} {X : Nat -> Prop} {β β2 : List BI} {H N : List Blk} {s : Nat -> Nat}
structure Sel (s : Nat -> Nat) (β : List BI) (H : List Blk) (β2 : List BI) (N : List Blk) : Prop where
 len : β2.length = N.length
 b : ∀ (l : Nat), l < N.length -> β2[l]? = β[s l]?
 h : ∀ (l : Nat) (b : Blk), N[l]? = some b -> H[s l]? = some (cK s b)
 inj : ∀ (l l' : Nat), l < N.length -> l' < N.length -> s l = s l' -> l = l'
 ok : ∀ b ∈ N, okB N.length b = true
theorem Sel.mut_ (S : Sel s β H β2 N) {b : Nat} (h : MutB β2 N b) : MutB β H b := by
 obtain ⟨l, c, blk, h1, h2, h3⟩ := h
 have hl := (List.getElem?_eq_some_iff.1 h2).1
 rw [S.b l hl] at h1
 exact ⟨s l, c, _, h1, S.h l blk h2, h3⟩
theorem Sel.mu (S : Sel s β H β2 N) {b : Nat} (h : Mu X β2 N b) : Mu X β H b := h.imp id S.mut_
theorem Sel.get (S : Sel s β H β2 N) {l : Nat} {b : Blk} (hl : l < N.length) (h : H[s l]? = some b) : ∃ b0, N[l]? = some b0 /\ b = cK s b0 /\ b0.rows.length = b.rows.length /\ b0.sz = b.sz := by
 refine ⟨N[l], getElem?_eq_getElem hl, ?_⟩
 have := S.h l N[l] (getElem?_eq_getElem hl)
 rw [h] at this
 injection this with this
 subst this
 exact ⟨rfl, by simp [cK], rfl⟩
theorem Sel.rep0 (S : Sel s β H β2 N) {v : Value} {av : AV} (hc : av.clean0 N.length = true) (h : Rep w (Mu X β H) β H v (lD s av)) : Rep w (Mu X β2 N) β2 N v av := by
 have hD : ∀ {v : Value} {u : AV}, RepD w (Mu X β H) v u -> RepD w (Mu X β2 N) v u := λ h => h.mono λ b _ hb => S.mu hb
 cases av with
 | own l n =>
  have hl : l < N.length := by simpa using hc
  obtain ⟨a, cap, b, rfl, hb, hn, h0, hx⟩ := fj h
  have hcap := nJ h
  obtain ⟨b0, k1, _, k2, k3⟩ := S.get hl hb
  refine .own l n a cap b0 k1 ⟨by omega, by omega⟩ h0 hcap λ e => ?_
  rw [S.b l hl]
  exact hx (by omega)
 | osl l n z o k =>
  have hl : l < N.length := by simpa using hc
  obtain ⟨a, cap, b, rfl, hb, hn, hle, h0, hcap, hx⟩ := dR h
  obtain ⟨b0, k1, _, k2, k3⟩ := S.get hl hb
  refine .osl l n z o k a cap b0 k1 ⟨by omega, by omega⟩ hle h0 hcap λ e e' => ?_
  rw [S.b l hl]
  exact hx (by omega) (by omega)
 | ptr l n z i f =>
  have hl : l < N.length := by simpa using hc
  obtain ⟨a, b, rfl, hb, hn, hx⟩ := dS h
  obtain ⟨b0, k1, _, k2, k3⟩ := S.get hl hb
  refine .ptr l n z i f a b0 k1 ⟨by omega, by omega⟩ λ e e' e'' => ?_
  rw [S.b l hl]
  exact hx (by omega) (by omega) e''
 | mapo l =>
  have hl : l < N.length := by simpa using hc
  obtain ⟨bk, cap, b, rfl, hb, hn, hx⟩ := mh h
  obtain ⟨b0, k1, _, k2, k3⟩ := S.get hl hb
  refine .mapo l bk cap b0 k1 ⟨by omega, by omega⟩ λ e => ?_
  rw [S.b l hl]
  exact hx (by omega)
 | agg cs =>
  obtain ⟨vs, val, rfl, hl, hm, hv⟩ := eB h
  exact .agg vs cs val hl hm λ j u hj => .deep (hD (cL (all_eq_true.1 hc u (mem_of_getElem? hj)) (hv j u hj)))
 | tup cs => cases hc
 | fn f cs =>
  obtain ⟨vs, val, rfl, hl, hm, hv⟩ := lE h
  exact .fn f vs cs val hl hm λ j u hj => .deep (hD (cL (all_eq_true.1 hc u (mem_of_getElem? hj)) (hv j u hj)))
 | _ => exact .deep (hD (cL rfl h))
theorem Sel.rep1 (S : Sel s β H β2 N) {v : Value} {av : AV} (hc : av.clean1 N.length = true) (h : Rep w (Mu X β H) β H v (fK s av)) : Rep w (Mu X β2 N) β2 N v av := by
 cases av with
 | tup cs =>
  obtain ⟨vs, val, rfl, hl, hm, hv⟩ := fT h
  rw [length_map] at hl
  refine .tup vs cs val hl (λ j hj => hm j (by simpa using hj)) λ j u hj => ?_
  exact S.rep0 (all_eq_true.1 hc u (mem_of_getElem? hj)) (hv j (lD s u) (by rw [getElem?_map, hj]; rfl))
 | _ => (refine S.rep0 ?_ h; exact hc)
theorem Sel.rep2 (S : Sel s β H β2 N) {v : Value} {av : AV} (hc : ok2 N.length av = true) (h : Rep w (Mu X β H) β H v (DT s av)) : Rep w (Mu X β2 N) β2 N v av := by
 cases av with
 | agg cs =>
  obtain ⟨vs, val, rfl, hl, hm, hv⟩ := eB h
  rw [length_map] at hl
  refine .agg vs cs val hl (λ j hj => hm j (by simpa using hj)) λ j u hj => ?_
  exact S.rep1 (all_eq_true.1 hc u (mem_of_getElem? hj)) (hv j (fK s u) (by rw [getElem?_map, hj]; rfl))
 | _ => (refine S.rep1 ?_ h; exact hc)
theorem Sel.repR (S : Sel s β H β2 N) {v : Value} {av : AV} (hc : okR N.length av = true) (h : Rep w (Mu X β H) β H v (ren s av)) : Rep w (Mu X β2 N) β2 N v av := by
 cases av with
 | tup cs =>
  obtain ⟨vs, val, rfl, hl, hm, hv⟩ := fT h
  rw [length_map] at hl
  refine .tup vs cs val hl (λ j hj => hm j (by simpa using hj)) λ j u hj => ?_
  exact S.rep2 (all_eq_true.1 hc u (mem_of_getElem? hj)) (hv j (DT s u) (by rw [getElem?_map, hj]; rfl))
 | _ => (refine S.rep2 ?_ h; exact hc)
theorem Sel.hrel (S : Sel s β H β2 N) (R : HRel w X β H) : HRel w X β2 N := by
 have hlt : ∀ (l b c : Nat), β2[l]? = some (BI.lies b c) -> l < N.length := λ l b c h => by rw [<- S.len]; exact (List.getElem?_eq_some_iff.1 h).1
 refine ⟨S.len, λ l bi b h1 h2 => ?_, λ l b c h => ?_, λ l l' b c c' h h' => ?_, R.base⟩
 ·have hl := (List.getElem?_eq_some_iff.1 h2).1
  rw [S.b l hl] at h1
  have hB := R.blk (s l) bi _ h1 (S.h l b h2)
  have hok := S.ok b (mem_of_getElem? h2)
  cases bi with
  | nil =>
   obtain ⟨k1, k2⟩ := hB
   exact ⟨by simpa [cK] using k1, k2⟩
  | lies bk cap =>
   rcases hB with ⟨cur, k1, k2, k3, k4, k5, k6, k7⟩ | ⟨hz, hd, es, clock, ents, k1, k2, k3⟩
   case' inr =>
    obtain ⟨ents0, hr0, rfl⟩ : ∃ e0, b.rows = [e0] /\ ents = e0.map (fK s) := by
     simp only [cK] at k2
     match hb : b.rows, k2 with
     | [e0], k2 => simp at k2; exact ⟨e0, rfl, k2.symm⟩
    refine .inr ⟨hz, hd, es, clock, ents0, k1, hr0, by rw [k3.len, length_map], k3.max, k3.st, λ i e he => ?_⟩
    obtain ⟨k, v, q1, q2, q3⟩ := k3.ent i e he
    rw [getElem?_map, map_eq_some_iff] at q1
    obtain ⟨c0, hc0, hc1⟩ := q1
    have hcl : c0.clean1 N.length = true := all_eq_true.1 (all_eq_true.1 hok ents0 (by rw [hr0]; exact mem_cons_self ..)) c0 (mem_of_getElem? hc0)
    obtain ⟨k0, v0, rfl, e1, e2⟩ : ∃ k0 v0, c0 = .tup [k0, v0] /\ lD s k0 = k /\ lD s v0 = v := by
     cases c0 with
     | tup cs =>
      simp only [fK, AV.tup.injEq] at hc1
      match cs, hc1 with
      | [a, b], hc1 => simp at hc1; exact ⟨a, b, rfl, hc1.1, hc1.2⟩
     | _ => cases hc1
    subst e1 e2
    refine ⟨k0, v0, hc0, ?_, S.rep0 (by simp only [AV.clean1, all_cons, Bool.and_eq_true] at hcl; exact hcl.2.1) q3⟩
    rcases q2 with ⟨e, n, f1, f2⟩ | ⟨e, n, f1, f2⟩
    ·exact .inl ⟨e, n, f1, by cases k0 <;> first | exact f2 | cases f2⟩
    ·exact .inr ⟨e, n, f1, by cases k0 <;> first | exact f2 | cases f2⟩
   refine .inl ⟨cur, k1, k2, by simpa [cK] using k3, k4, k5, λ r hr => ?_, λ i j r av hr hj => ?_⟩
   ·have := k6 (r.map (fK s)) (by simp only [cK]; exact mem_map.2 ⟨r, hr, rfl⟩)
    simpa [cK] using this
   ·obtain ⟨v, q1, q2, q3, q4⟩ := k7 i j (r.map (fK s)) (fK s av) (by simp only [cK]; rw [getElem?_map, hr]; rfl) (by rw [getElem?_map, hj]; rfl)
    have hcl : av.clean1 N.length = true := all_eq_true.1 (all_eq_true.1 hok r (mem_of_getElem? hr)) av (mem_of_getElem? hj)
    refine ⟨v, q1, q2, S.rep1 hcl q3, λ hd => ?_⟩
    have h4 := q4 hd
    have e := yv h4
    have h4 : RepD w (Mu X β H) v (fK s av) := h4
    rw [e] at h4
    exact h4.mono λ b _ hb => S.mu hb
 ·have hl := hlt l b c h
  rw [S.b l hl] at h
  exact R.lt (s l) b c h
 ·have hl := hlt l b c h
  have hl' := hlt l' b c' h'
  rw [S.b l hl] at h
  rw [S.b l' hl'] at h'
  exact S.inj l l' hl hl' (R.inj (s l) (s l') b c c' h h')
variable {w' : World} {β1 : List BI}
theorem s9 {α : Type} {l m : List α} {i : Nat} {x : α} (h : l[i]? = some x) : (l ++ m)[i]? = some x := by rw [getElem?_append_left (List.getElem?_eq_some_iff.1 h).1]; exact h
theorem kG {α : Type} (l m : List α) (i : Nat) : (l ++ m)[i + l.length]? = m[i]? := by rw [List.getElem?_append_right (by omega), Nat.add_sub_cancel]
theorem gL {α : Type} {l m : List α} {i : Nat} {x : α} (h : (l ++ m)[i]? = some x) : l[i]? = some x ∨ ∃ j, i = j + l.length /\ m[j]? = some x := by
 rcases lt_or_ge i l.length with h1 | h1
 ·rw [getElem?_append_left h1] at h; exact .inl h
 ·rw [List.getElem?_append_right h1] at h; exact .inr ⟨i - l.length, by omega, h⟩
def up (k : Nat) : Nat -> Nat := λ l => l + k
theorem GF (hl : β.length = H.length) {N' : List Blk} {b : Nat} : MutB (β ++ β1) (H ++ N') b ↔ MutB β H b ∨ MutB β1 N' b := by
 constructor
 ·rintro ⟨l, c, blk, h1, h2, h3⟩
  rcases gL h1 with h | ⟨j, rfl, h⟩
  ·left
   rw [getElem?_append_left (by have := (List.getElem?_eq_some_iff.1 h).1; omega)] at h2
   exact ⟨l, c, blk, h, h2, h3⟩
  ·right
   rw [hl, kG] at h2
   exact ⟨j, c, blk, h, h2, h3⟩
 ·rintro (⟨l, c, blk, h1, h2, h3⟩ | ⟨l, c, blk, h1, h2, h3⟩)
  ·exact ⟨l, c, blk, s9 h1, s9 h2, h3⟩
  ·refine ⟨l + β.length, c, blk, by rw [kG]; exact h1, by rw [hl, kG]; exact h2, h3⟩
theorem DF {k : Nat} {b : Nat} : MutB β1 (N.map (cK (up k))) b ↔ MutB β1 N b := by
 constructor
 ·rintro ⟨l, c, blk, h1, h2, h3⟩
  rw [getElem?_map, map_eq_some_iff] at h2
  obtain ⟨b0, h2, rfl⟩ := h2
  exact ⟨l, c, b0, h1, h2, h3⟩
 ·rintro ⟨l, c, blk, h1, h2, h3⟩
  exact ⟨l, c, cK (up k) blk, h1, by rw [getElem?_map, h2]; rfl, h3⟩
theorem tU (hl : β.length = H.length) {k : Nat} {b : Nat} : Mu X (β ++ β1) (H ++ N.map (cK (up k))) b ↔ Mu (Mu X β H) β1 N b := by
 unfold Mu
 rw [GF hl, DF, or_assoc]
theorem uE (hl : β.length = H.length) {Y Y' : Nat -> Prop} (hY : ∀ b, Y' b -> Y b) {v : Value} {av : AV} (hc : av.clean0 N.length = true) (h : Rep w Y β1 N v av) : Rep w Y' (β ++ β1) (H ++ N.map (cK (up H.length))) v (lD (up H.length) av) := by
 have hD : ∀ {v : Value} {u : AV}, RepD w Y v u -> RepD w Y' v u := λ h => h.mono λ b _ hb => hY b hb
 have hB : ∀ {l : Nat} {b : Blk}, N[l]? = some b -> (H ++ N.map (cK (up H.length)))[l + H.length]? = some (cK (up H.length) b) := λ {l b} h => by rw [kG, getElem?_map, h]; rfl
 have hβ : ∀ {l : Nat}, (β ++ β1)[l + H.length]? = β1[l]? := λ {l} => by rw [<- hl, kG]
 cases h with
 | deep h => rw [sk h]; exact .deep (hD h)
 | own l n a cap b hb hn h0 hcap hx =>
  exact .own (l + H.length) n a cap (cK _ b) (hB hb) ⟨hn.1, by simpa [cK] using hn.2⟩ h0 hcap λ e => by rw [hβ]; exact hx (by simpa [cK] using e)
 | osl l n z o k a cap b hb hn hle h0 hcap hx =>
  exact .osl (l + H.length) n z o k a cap (cK _ b) (hB hb) ⟨hn.1, by simpa [cK] using hn.2⟩ hle h0 hcap λ e e' => by rw [hβ]; exact hx (by simpa [cK] using e) e'
 | ptr l n z i f a b hb hn hx =>
  exact .ptr (l + H.length) n z i f a (cK _ b) (hB hb) ⟨hn.1, by simpa [cK] using hn.2⟩ λ e e' e'' => by rw [hβ]; exact hx (by simpa [cK] using e) e' e''
 | mapo l bk cap b hb hn hx =>
  exact .mapo (l + H.length) bk cap (cK _ b) (hB hb) ⟨hn.1, by simpa [cK] using hn.2⟩ λ e => by rw [hβ]; exact hx (by simpa [cK] using e)
 | agg vs cells val hl hm hv =>
  exact .agg vs cells val hl hm λ j u hj => .deep (hD (cL (all_eq_true.1 hc u (mem_of_getElem? hj)) (hv j u hj)))
 | tup cs cells val hl hm hv => cases hc
 | fn f cs cells val hl hm hv =>
  exact .fn f cs cells val hl hm λ j u hj => .deep (hD (cL (all_eq_true.1 hc u (mem_of_getElem? hj)) (hv j u hj)))
theorem uF (hl : β.length = H.length) {Y Y' : Nat -> Prop} (hY : ∀ b, Y' b -> Y b) {v : Value} {av : AV} (hc : av.clean1 N.length = true) (h : Rep w Y β1 N v av) : Rep w Y' (β ++ β1) (H ++ N.map (cK (up H.length))) v (fK (up H.length) av) := by
 cases av with
 | tup cs =>
  obtain ⟨vs, val, rfl, hl', hm, hv⟩ := fT h
  refine .tup vs _ val (by simpa using hl') (λ j hj => hm j (by simpa using hj)) λ j u hj => ?_
  rw [getElem?_map, map_eq_some_iff] at hj
  obtain ⟨u0, hj, rfl⟩ := hj
  exact uE hl hY (all_eq_true.1 hc u0 (mem_of_getElem? hj)) (hv j u0 hj)
 | _ => (refine uE (N := N) hl hY ?_ h; exact hc)
theorem AI (hl : β.length = H.length) {Y Y' : Nat -> Prop} (hY : ∀ b, Y' b -> Y b) {v : Value} {av : AV} (hc : ok2 N.length av = true) (h : Rep w Y β1 N v av) : Rep w Y' (β ++ β1) (H ++ N.map (cK (up H.length))) v (DT (up H.length) av) := by
 cases av with
 | agg cs =>
  obtain ⟨vs, val, rfl, hl', hm, hv⟩ := eB h
  refine .agg vs _ val (by simpa using hl') (λ j hj => hm j (by simpa using hj)) λ j u hj => ?_
  rw [getElem?_map, map_eq_some_iff] at hj
  obtain ⟨u0, hj, rfl⟩ := hj
  exact uF hl hY (all_eq_true.1 hc u0 (mem_of_getElem? hj)) (hv j u0 hj)
 | _ => (refine uF (N := N) hl hY ?_ h; exact hc)
theorem HO (hl : β.length = H.length) {Y Y' : Nat -> Prop} (hY : ∀ b, Y' b -> Y b) {v : Value} {av : AV} (hc : okR N.length av = true) (h : Rep w Y β1 N v av) : Rep w Y' (β ++ β1) (H ++ N.map (cK (up H.length))) v (ren (up H.length) av) := by
 cases av with
 | tup cs =>
  obtain ⟨vs, val, rfl, hl', hm, hv⟩ := fT h
  refine .tup vs _ val (by simpa using hl') (λ j hj => hm j (by simpa using hj)) λ j u hj => ?_
  rw [getElem?_map, map_eq_some_iff] at hj
  obtain ⟨u0, hj, rfl⟩ := hj
  exact AI hl hY (all_eq_true.1 hc u0 (mem_of_getElem? hj)) (hv j u0 hj)
 | _ => (refine AI (N := N) hl hY ?_ h; exact hc)
theorem AJ (R : HRel w X β H) (S : StepR w [] [] w' β1 N) : StepR w β H w' (β ++ β1) (H ++ N.map (cK (up H.length))) := by
 refine ⟨S.keeps.weaken λ b _ h => by obtain ⟨l, c, blk, h1, _, _⟩ := h; simp at h1, ⟨λ l b h => ⟨b, s9 h, rfl, rfl, le_refl _, λ _ => by rw [getElem?_append_left (by rw [R.len]; exact (List.getElem?_eq_some_iff.1 h).1)], id⟩, λ l bk c h => ?_⟩, R.len⟩
 rcases gL h with hj | ⟨j, rfl, hj⟩
 ·exact .inr ⟨c, hj⟩
 ·rcases S.grow.at_ j bk c hj with h | ⟨c', h⟩
  ·exact .inl h
  ·simp at h
theorem HM (R : HRel w X β H) (R1 : HRel w' (Mu X β H) β1 N) (S : StepR w [] [] w' β1 N) (hok : ∀ b ∈ N, okB N.length b = true) : HRel w' X (β ++ β1) (H ++ N.map (cK (up H.length))) := by
 have S' := AJ R S
 have hnew : ∀ (j bk c : Nat), β1[j]? = some (BI.lies bk c) -> w.heap.size <= bk := λ j bk c h => by
  rcases S.grow.at_ j bk c h with h | ⟨c', h⟩
  ·exact h
  ·simp at h
 have hkeep : ∀ b, b < w.heap.size -> w'.heap[b]? = w.heap[b]? := λ b hb => S.keeps.block b hb λ h => by obtain ⟨l, c, blk, h1, _, _⟩ := h; simp at h1
 refine ⟨by simp [R.len, R1.len], λ l bi b h1 h2 => ?_, λ l b c h => ?_, λ l l' b c c' h h' => ?_, λ b hb => Nat.lt_of_lt_of_le (R.base b hb) S.keeps.size⟩
 ·rcases gL h1 with k1 | ⟨j, rfl, k1⟩
  ·rw [getElem?_append_left (by rw [<- R.len]; exact (List.getElem?_eq_some_iff.1 k1).1)] at h2
   exact (R.blk l bi b k1 h2).keep S' λ bk c e => by subst e; exact hkeep bk (R.lt l bk c k1).1
  ·rw [R.len, kG, getElem?_map, map_eq_some_iff] at h2
   obtain ⟨b0, h2, rfl⟩ := h2
   have hB := R1.blk j bi b0 k1 h2
   have hokb := hok b0 (mem_of_getElem? h2)
   cases bi with
   | nil => exact ⟨by simpa [cK] using hB.1, hB.2⟩
   | lies bk cap =>
    rcases hB with ⟨cur, k1, k2, k3, k4, k5, k6, k7⟩ | ⟨hz, hd, es, clock, ents, k1, k2, k3⟩
    case' inr =>
     refine .inr ⟨hz, hd, es, clock, ents.map (fK (up H.length)), k1, by simp [cK, k2], by rw [k3.len, length_map], k3.max, k3.st, λ i e he => ?_⟩
     obtain ⟨k, v, q1, q2, q3⟩ := k3.ent i e he
     have hcl := all_eq_true.1 (all_eq_true.1 hokb ents (by rw [k2]; exact mem_cons_self ..)) _ (mem_of_getElem? q1)
     simp only [AV.clean1, all_cons, Bool.and_eq_true] at hcl
     refine ⟨k, lD (up H.length) v, ?_, q2, uE R.len (λ b hb => (tU R.len).1 hb) hcl.2.1 q3⟩
     rw [getElem?_map, q1]
     rcases q2 with ⟨_, n, _, rfl⟩ | ⟨_, n, _, rfl⟩ <;> rfl
    refine .inl ⟨cur, k1, k2, by simpa [cK] using k3, k4, k5, λ r hr => ?_, λ i j' r av hr hj => ?_⟩
    ·simp only [cK, mem_map] at hr
     obtain ⟨r0, hr0, rfl⟩ := hr
     simpa [cK] using k6 r0 hr0
    ·simp only [cK, getElem?_map, map_eq_some_iff] at hr
     obtain ⟨r0, hr0, rfl⟩ := hr
     rw [getElem?_map, map_eq_some_iff] at hj
     obtain ⟨av0, hj0, rfl⟩ := hj
     obtain ⟨v, q1, q2, q3, q4⟩ := k7 i j' r0 av0 hr0 hj0
     have hcl : av0.clean1 N.length = true := all_eq_true.1 (all_eq_true.1 hokb r0 (mem_of_getElem? hr0)) av0 (mem_of_getElem? hj0)
     refine ⟨v, q1, q2, uF R.len (λ b hb => (tU R.len).1 hb) hcl q3, λ hd => ?_⟩
     have h4 := q4 hd
     rw [BL h4]
     exact h4.mono λ b _ hb => (tU R.len).1 hb
 ·rcases gL h with k | ⟨j, rfl, k⟩
  ·exact ⟨Nat.lt_of_lt_of_le (R.lt l b c k).1 S.keeps.size, (R.lt l b c k).2⟩
  ·exact ⟨(R1.lt j b c k).1, λ hx => (R1.lt j b c k).2 (.inl hx)⟩
 ·rcases gL h with k | ⟨j, rfl, k⟩ <;> rcases gL h' with k' | ⟨j', rfl, k'⟩
  ·exact R.inj l l' b c c' k k'
  ·have := (R.lt l b c k).1; have := hnew j' b c' k'; omega
  ·have := (R.lt l' b c' k').1; have := hnew j b c k; omega
  ·rw [R1.inj j j' b c c' k k']
end
def bY (p : List AV -> Option (Prop × AV × List Blk)) : List AV -> List Blk -> Option (Prop × AV × List Blk) := λ args H =>
 match p args with
 | some (ob, r, N) => if args.all AV.deepArg then some (ob, ren (up H.length) r, H ++ N.map (cK (up H.length))) else none
 | none => none
section
variable {C : Ctx}
def Gh (C : Ctx) (rs : List ResultVar) (s : List Nat) (r : AV) (N : List Blk) (st : ASt) : Prop :=
 match bR C st rs with
 | some (ob, r') => ob /\ r' = ren (λ l => s.getD l 0) r /\ s.map (λ i => st.H[i]?) = N.map (λ b => some (cK (λ l => s.getD l 0) b))
 | none => False
def Ah (C : Ctx) (rs : List ResultVar) (s : List Nat) (r : AV) (N : List Blk) : Exit -> ASt -> Prop
 | .normal, st => Gh C rs s r N st
 | .ret, st => Gh C rs s r N st
 | _, _ => False
theorem si {f : FuncId} {fn : Func} {body : Code} {rs : List ResultVar} {n : Nat} (hf : C.P.funcs[f]? = some fn) (hb : fn.body = some body) (hrs : fn.results.toList = rs) (hn : fn.ntmps = n) {p : List AV -> Option (Prop × AV × List Blk)}
  (h : ∀ avs ob r N, p avs = some (ob, r, N) -> ob -> avs.length <= n /\ okR N.length r = true /\ (N.all (okB N.length)) = true /\ ∃ s : List Nat, s.Nodup /\ AW C n 0 body ⟨argsρ 0 (avs.map bq), []⟩ (Ah C rs s r N)) : bg C.P C.G f (bY p) := by
 subst hrs hn
 intro w X β H args avs0 ob r0 H' R hG hsz0 harg0 hp hob
 unfold bY at hp
 split at hp
 ·rename_i ob' r N hp'
  split at hp
  ·rename_i hdeep
   injection hp with hp; injection hp with e1 e2; injection e2 with e2 e3; subst e1 e2 e3
   obtain ⟨hlen0, hokr, hokb, s, hnd, hav0⟩ := h avs0 ob' r N hp' hob
   generalize havs : avs0.map bq = avs at hav0
   have hlen : avs.length <= fn.ntmps := by rw [<- havs]; simpa using hlen0
   have hsz : args.size = avs.length := by rw [<- havs]; simpa using hsz0
   have harg : ∀ (j : Nat) (u : AV), avs[j]? = some u -> ∃ v, args[j]? = some v /\ RepD w (Mu X β H) v u := λ j u hu => by
    rw [<- havs, getElem?_map] at hu
    simp only [map_eq_some_iff] at hu
    obtain ⟨av, hav, rfl⟩ := hu
    obtain ⟨v, h1, h2⟩ := harg0 j av hav
    exact ⟨v, h1, dM (fZ (all_eq_true.1 hdeep av (mem_of_getElem? hav)) h2)⟩
   refine calls_of_wp hf hb ?_
   have hMu : ∀ b, Mu (Mu X β H) [] [] b -> Mu X β H b := by
    rintro b (h | ⟨l, c, blk, h1, _, _⟩)
    ·exact h
    ·simp at h1
   have R0 : HRel w (Mu X β H) [] [] := ⟨rfl, λ l bi b h1 _ => by simp at h1, λ l b c h1 => by simp at h1, λ l l' b c c' h1 => by simp at h1, R.mu_lt⟩
   have hr : Rel C fn.ntmps (Mu X β H) w [] [] ⟨argsρ 0 avs, []⟩ { tmps := args ++ Array.replicate (fn.ntmps - args.size) undef, defers := [] } w :=
    ⟨[], R0, StepR.refl _ _ _ rfl, ed hsz (λ j u hj => let ⟨v, h1, h2⟩ := harg j u hj; ⟨v, h1, .deep (h2.mono λ b _ hb => hMu b hb)⟩), λ g => (hG g).mono λ b _ hb => hMu b hb, by simp; omega, rfl⟩
   refine Code.wp_mono (λ ex a' w' ⟨st', hq, hr'⟩ => ?_) (hav0 (Mu X β H) w [] [] _ w rfl hr)
   have fin : Gh C fn.results.toList s r N st' -> bodyPost C.P fn (λ e w' => ∃ v β', e = .returned v /\ HRel w' X β' (H ++ N.map (cK (up H.length))) /\ StepR w β H w' β' (H ++ N.map (cK (up H.length))) /\ Rep w' (Mu X β' (H ++ N.map (cK (up H.length)))) β' (H ++ N.map (cK (up H.length))) v (ren (up H.length) r)) .normal a' w' := by
    unfold Gh
    split
    ·rename_i ob1 r1 hres
     rintro ⟨hob1, hr1, hH⟩
     obtain ⟨β1, R', S', T', G', hN', hdef'⟩ := hr'
     obtain ⟨u, hu, hrep⟩ := ck R' T' hres hob1
     have hsl : s.length = N.length := by have := congrArg List.length hH; simpa using this
     have hgd : ∀ l (hl : l < s.length), s.getD l 0 = s[l] := λ l hl => by simp [List.getD_eq_getElem?_getD, hl]
     have hget : ∀ l b, N[l]? = some b -> st'.H[s.getD l 0]? = some (cK (λ l => s.getD l 0) b) := by
      intro l b hb
      have hl : l < s.length := by rw [hsl]; exact (List.getElem?_eq_some_iff.1 hb).1
      have := congrArg (λ x => x[l]?) hH
      simp only [getElem?_map, hb, getElem?_eq_getElem hl, map_some, Option.some.injEq] at this
      rw [hgd l hl]
      exact this
     have hβ : ∀ l, l < N.length -> ∃ bi, β1[s.getD l 0]? = some bi := λ l hl => by
      have := (List.getElem?_eq_some_iff.1 (hget l N[l] (getElem?_eq_getElem hl))).1
      exact ⟨β1[s.getD l 0]'(by rw [R'.len]; exact this), getElem?_eq_getElem _⟩
     have SS : Sel (λ l => s.getD l 0) β1 st'.H ((List.range N.length).map λ l => (β1[s.getD l 0]?).getD .nil) N := by
      refine ⟨by simp, λ l hl => ?_, λ l b hb => ?_, λ l l' hl hl' e => ?_, λ b hb => all_eq_true.1 hokb b hb⟩
      ·obtain ⟨bi, hbi⟩ := hβ l hl
       rw [getElem?_map, List.getElem?_range hl, map_some, hbi]
       rfl
      ·exact hget l b hb
      ·simp only [hgd l (by omega), hgd l' (by omega)] at e
       exact (List.getElem_inj hnd).1 e
     generalize ((List.range N.length).map λ l => (β1[s.getD l 0]?).getD .nil) = β2 at SS
     have R2 := SS.hrel R'
     have hS2 : StepR w [] [] w' β2 N := by
      refine ⟨S'.keeps, ⟨λ l b h => by simp at h, λ l bk c h => ?_⟩, rfl⟩
      have hl : l < N.length := by rw [<- SS.len]; exact (List.getElem?_eq_some_iff.1 h).1
      rw [SS.b l hl] at h
      rcases S'.grow.at_ _ bk c h with h | ⟨c', h⟩
      ·exact .inl h
      ·simp at h
     subst hr1
     have hrep2 := SS.repR hokr hrep
     exact ⟨hdef', u, hu, u, β ++ β2, rfl, HM R R2 hS2 (λ b hb => all_eq_true.1 hokb b hb), AJ R hS2, HO R.len (λ b hb => (tU R.len).1 hb) hokr hrep2⟩
    ·intro h; exact h.elim
   cases ex with
   | normal => exact fin hq
   | ret => exact fin hq
   | _ => exact hq.elim
  ·cases hp
 ·cases hp
end
section
variable {C : Ctx} {N h0 : Nat}
theorem xA {code : Code} {st : ASt} {Q : Exit -> ASt -> Prop} (h : AW C N h0 code st λ ex s => ∃ s', Weak C N h0 s s' /\ Q ex s') : AW C N h0 code st Q := λ X w0 β0 H0 x w hl hr =>
 Code.wp_mono (λ ex a' w' ⟨st', ⟨s', hw, hq⟩, hr'⟩ => ⟨s', hq, hw X w0 β0 H0 a' w' hl hr'⟩) (h X w0 β0 H0 x w hl hr)
def B6 (C : Ctx) (N h0 : Nat) (Q : Exit -> ASt -> Prop) (ex : Exit) (s : ASt) : Prop := ∃ s', Weak C N h0 s s' /\ Q ex s'
@[congr] theorem MJ {Q : Exit -> ASt -> Prop} {ex ex' : Exit} {st st' : ASt} (h : eH ex = ex') (h' : st = st') : B6 C N h0 Q ex st = B6 C N h0 Q ex' st' := by rw [bK] at h; rw [h, h']
theorem eh {Q : Exit -> ASt -> Prop} {ex : Exit} {s : ASt} (h : Q ex s) : B6 C N h0 Q ex s := ⟨s, Weak.refl s, h⟩
theorem mD {Q : Exit -> ASt -> Prop} {ex : Exit} {ρ : List (Nat × AV)} {H : List Blk} (t sz : Nat) (e : TypeId) (ht : aQ ρ t = .slice sz true []) (hz : 0 < sz) (h : Q ex ⟨(t, .own H.length 0) :: ρ, H ++ [⟨e, sz, [], true, true⟩]⟩) : B6 C N h0 Q ex ⟨ρ, H⟩ :=
 ⟨_, ev t sz e ht hz, h⟩
def ki {α : Type} [Enc α] (pre : α -> Prop) (res : α -> AV) (bl : α -> List Blk) : List AV -> Option (Prop × AV × List Blk)
 | [a] => some (bq a = Enc.enc (Enc.dec a : α) /\ pre (Enc.dec a), res (Enc.dec a), bl (Enc.dec a))
 | _ => none
def pV {α β : Type} [Enc α] [Enc β] (pre : α -> β -> Prop) (res : α -> β -> AV) (bl : α -> β -> List Blk) : List AV -> Option (Prop × AV × List Blk)
 | [a, b] => some (bq a = Enc.enc (Enc.dec a : α) /\ bq b = Enc.enc (Enc.dec b : β) /\ pre (Enc.dec a) (Enc.dec b), res (Enc.dec a) (Enc.dec b), bl (Enc.dec a) (Enc.dec b))
 | _ => none
@[simp] theorem FB {α : Type} [Enc α] (pre : α -> Prop) (res : α -> AV) (bl : α -> List Blk) (a : AV) (H : List Blk) :
  bY (ki pre res bl) [a] H = if a.deepArg then some (bq a = Enc.enc (Enc.dec a : α) /\ pre (Enc.dec a), ren (up H.length) (res (Enc.dec a)), H ++ (bl (Enc.dec a)).map (cK (up H.length))) else none := by
 unfold bY ki
 simp only [all_cons, all_nil, Bool.and_true]
@[simp] theorem FC {α β : Type} [Enc α] [Enc β] (pre : α -> β -> Prop) (res : α -> β -> AV) (bl : α -> β -> List Blk) (a b : AV) (H : List Blk) :
  bY (pV pre res bl) [a, b] H = if a.deepArg && b.deepArg then some (bq a = Enc.enc (Enc.dec a : α) /\ bq b = Enc.enc (Enc.dec b : β) /\ pre (Enc.dec a) (Enc.dec b), ren (up H.length) (res (Enc.dec a) (Enc.dec b)), H ++ (bl (Enc.dec a) (Enc.dec b)).map (cK (up H.length))) else none := by
 unfold bY pV
 simp only [all_cons, all_nil, Bool.and_true]
@[simp] theorem Xc (k l : Nat) : up k l = l + k := rfl
@[simp] theorem PJ (s : Nat -> Nat) (l n : Nat) : ren s (.own l n) = .own (s l) n := rfl
@[simp] theorem ON (s : Nat -> Nat) (n : ByteArray) : fK s (.str n) = .str n := rfl
@[simp] theorem PI (s : Nat -> Nat) (e : TypeId) (sz : Nat) (rows : List (List AV)) (mu deep : Bool) : cK s ⟨e, sz, rows, mu, deep⟩ = ⟨e, sz, rows.map λ r => r.map (fK s), mu, deep⟩ := rfl
theorem p9 {α : Type} [Enc α] (s : Nat -> Nat) (h : ∀ x : α, (Enc.cells x).map (fK s) = Enc.cells x) (l : List α) : (aq l).map (λ r => r.map (fK s)) = aq l := by
 unfold aq
 simp only [map_map, Function.comp_def, h]
theorem l6 {α : Type} [Enc α] (m : Nat) (h : ∀ x : α, (Enc.cells x).all (AV.clean1 m) = true) (l : List α) : ((aq l).all λ r => r.all λ c => c.clean1 m) = true := by
 unfold aq
 rw [List.all_map, all_eq_true]
 exact λ x _ => h x
def Ix (H : List Blk) (s : List Nat) (r : AV) (N' : List Blk) (o : Option (Prop × AV)) : Prop := match o with | some (ob, r') => ob /\ r' = ren (λ l => s.getD l 0) r /\ s.map (λ i => H[i]?) = N'.map (λ b => some (cK (λ l => s.getD l 0) b)) | none => False
@[simp] theorem JQ (H : List Blk) (s : List Nat) (r r' : AV) (N' : List Blk) (ob : Prop) : Ix H s r N' (some (ob, r')) = (ob /\ r' = ren (λ l => s.getD l 0) r /\ s.map (λ i => H[i]?) = N'.map (λ b => some (cK (λ l => s.getD l 0) b))) := rfl
@[simp] theorem MQ (rs : List ResultVar) (s : List Nat) (r : AV) (N' : List Blk) (ρ : List (Nat × AV)) (H : List Blk) : Ah C rs s r N' .ret ⟨ρ, H⟩ = Ix H s r N' (bR C ⟨ρ, H⟩ rs) := rfl
end
section
variable {C : Ctx} (hS : aB C) (hM : C.P.follows .mixedOrders = true) {f : FuncId} {fn : Func} {body : Code} {rs : List ResultVar} {n : Nat} (hf : C.P.funcs[f]? = some fn) (hb : fn.body = some body) (hrs : fn.results.toList = rs) (hn : fn.ntmps = n)
include hS hM hf hb hrs hn
end
theorem aF {P : Program} {G : Nat -> AV} {f : FuncId} {fn : Func} {g : List AV -> List Blk -> Option (Prop × AV × List Blk)} (h : bg P G f g) (hf : P.funcs[f]? = some fn) (hb : fn.body.isSome = true) (hn : fn.name ≠ "runtime.NumGoroutine") : dv P G f (.gen g) := ⟨h, fn, hf, hn, hb⟩
def yd : List Nat -> Nat -> Bool
 | [], _ => false
 | a :: r, i => a == i || yd r i
@[simp] theorem wk (i : Nat) : yd [] i = false := rfl
@[simp] theorem rT (a i : Nat) (r : List Nat) : yd (a :: r) i = (a == i || yd r i) := rfl
def cE (C : Ctx) (hd : List Nat) (N : Nat) : Code -> Bool
 | .region id ops draw => yd hd id || ((ops.toList.all λ o => match o.dst with | some d => decide (d < N) | none => true) && (!draw || DQ C ops))
 | .seq a b => cE C hd N a && cE C hd N b
 | .cond _ a b => cE C hd N a && cE C hd N b
 | .block _ b => cE C hd N b
 | .scope b => cE C hd N b
 | _ => true
def du (C : Ctx) (hd : List Nat) (N h0 : Nat) : Code -> ASt -> (Exit -> ASt -> Prop) -> Prop
 | .skip, st, Q => Q .normal st
 | .region id ops d, st, Q => if yd hd id = true then AW C N h0 (.region id ops d) st Q else eF C ops ops.toList st (Q .normal)
 | .seq a b, st, Q => du C hd N h0 a st (rf (λ st' => du C hd N h0 b st' Q) Q)
 | .cond c a b, st, Q => eJ (aev C st.ρ 0 c) λ x => iz x (du C hd N h0 a st Q) (du C hd N h0 b st Q)
 | .block id b, st, Q => du C hd N h0 b st (iQ id Q)
 | .exit id, st, Q => Q (.exit id) st
 | .ret, st, Q => Q .ret st
 | .label _, st, Q => Q .normal st
 | .scope b, st, Q => du C hd N h0 b st (oq Q)
 | .loop b, st, Q => AW C N h0 (.loop b) st Q
 | _, _, _ => False
section
variable {C : Ctx} {hd : List Nat} {N h0 : Nat}
@[congr] theorem Jo {code : Code} {st st' : ASt} {Q : Exit -> ASt -> Prop} (h : eH st = st') : du C hd N h0 code st Q = du C hd N h0 code st' Q := by rw [bK] at h; rw [h]
@[simp] theorem Mo (st : ASt) (Q : Exit -> ASt -> Prop) : du C hd N h0 .skip st Q = Q .normal st := rfl
@[simp] theorem nA (id : Nat) (l : List Oper) (d : Bool) (st : ASt) (Q : Exit -> ASt -> Prop) : du C hd N h0 (.region id l.toArray d) st Q = if yd hd id = true then AW C N h0 (.region id l.toArray d) st Q else eF C l.toArray l st (Q .normal) := rfl
@[simp] theorem Ni (a b : Code) (st : ASt) (Q : Exit -> ASt -> Prop) : du C hd N h0 (.seq a b) st Q = du C hd N h0 a st (rf (λ st' => du C hd N h0 b st' Q) Q) := rfl
@[simp] theorem A3 (c : Operand) (a b : Code) (st : ASt) (Q : Exit -> ASt -> Prop) : du C hd N h0 (.cond c a b) st Q = eJ (aev C st.ρ 0 c) λ x => iz x (du C hd N h0 a st Q) (du C hd N h0 b st Q) := rfl
@[simp] theorem Jn (id : Nat) (b : Code) (st : ASt) (Q : Exit -> ASt -> Prop) : du C hd N h0 (.block id b) st Q = du C hd N h0 b st (iQ id Q) := rfl
@[simp] theorem Mm (id : Nat) (st : ASt) (Q : Exit -> ASt -> Prop) : du C hd N h0 (.exit id) st Q = Q (.exit id) st := rfl
@[simp] theorem Nh (st : ASt) (Q : Exit -> ASt -> Prop) : du C hd N h0 .ret st Q = Q .ret st := rfl
@[simp] theorem Mn (b : Code) (st : ASt) (Q : Exit -> ASt -> Prop) : du C hd N h0 (.loop b) st Q = AW C N h0 (.loop b) st Q := rfl
theorem uK {c : Operand} {x y : Code} {st : ASt} {Q : Exit -> ASt -> Prop} (h : eJ (aev C st.ρ 0 c) λ b => iz b (AW C N h0 x st Q) (AW C N h0 y st Q)) : AW C N h0 (.cond c x y) st Q := λ X w0 β0 H0 a w hl hr => by
 have hr0 := hr
 obtain ⟨β, R, S0, Tr, G, hN, hdef⟩ := hr0
 have hE := cY Tr G 0 c
 unfold eJ at h
 split at h
 ·rename_i b hb
  rw [hb] at hE
  exact wp_cond_split (cR hE) (λ ht => h.1 ht X w0 β0 H0 a w hl hr) (λ hf => h.2 hf X w0 β0 H0 a w hl hr)
 ·rename_i hb
  rw [hb] at hE
  obtain ⟨b, hb'⟩ := mf hE
  exact wp_cond_split hb' (λ _ => h.1.1 rfl X w0 β0 H0 a w hl hr) (λ _ => h.2.2 rfl X w0 β0 H0 a w hl hr)
 ·exact h.elim
theorem Cf {b : Code} {st : ASt} {Q : Exit -> ASt -> Prop} (h : AW C N h0 b st (oq Q)) : AW C N h0 (.scope b) st Q := λ X w0 β0 H0 a w hl hr => by
 refine wp_scope_straight (Code.wp_mono (λ ex a' w' ⟨st', hq, hr'⟩ => ?_) (h X w0 β0 H0 a w hl hr))
 cases ex with
 | goto l => exact hq
 | _ => exact ⟨st', hq, hr'⟩
theorem ay (hS : aB C) (hM : C.P.follows .mixedOrders = true) : ∀ (code : Code) {st : ASt} {Q : Exit -> ASt -> Prop}, cE C hd N code = true -> du C hd N h0 code st Q -> AW C N h0 code st Q
 | .skip, st, Q, _, h => aY hS hM .skip rfl h
 | .region id ops draw, st, Q, hok, h => by
  unfold du at h
  split at h
  ·exact h
  ·rename_i hi
   unfold cE at hok
   rw [Bool.or_eq_true] at hok
   exact aY hS hM (.region id ops draw) (hok.resolve_left hi) h
 | .seq x y, st, Q, hok, h => by
  simp only [cE, Bool.and_eq_true] at hok
  refine oS (AW.mono (ay hS hM x hok.1 h) λ ex st' hq => ?_)
  cases ex with
  | normal => exact ay hS hM y hok.2 hq
  | _ => exact hq
 | .cond c x y, st, Q, hok, h => by
  simp only [cE, Bool.and_eq_true] at hok
  rw [A3] at h
  refine uK ?_
  have key : ∀ v : AV, (eJ v λ b => iz b (du C hd N h0 x st Q) (du C hd N h0 y st Q)) -> eJ v λ b => iz b (AW C N h0 x st Q) (AW C N h0 y st Q) := by
   intro v hv
   unfold eJ at hv ⊢
   split at hv
   ·exact ⟨λ hb => ay hS hM x hok.1 (hv.1 hb), λ hb => ay hS hM y hok.2 (hv.2 hb)⟩
   ·exact ⟨⟨λ hb => ay hS hM x hok.1 (hv.1.1 hb), λ hb => (by cases hb)⟩, ⟨λ hb => (by cases hb), λ hb => ay hS hM y hok.2 (hv.2.2 hb)⟩⟩
   ·exact hv
  exact key _ h
 | .block id b, st, Q, hok, h => lK (ay hS hM b (by simpa only [cE] using hok) h)
 | .exit id, st, Q, _, h => aY hS hM (.exit id) rfl h
 | .ret, st, Q, _, h => aY hS hM .ret rfl h
 | .label l, st, Q, _, h => aY hS hM (.label l) rfl h
 | .scope b, st, Q, hok, h => Cf (ay hS hM b (by simpa only [cE] using hok) h)
 | .loop b, st, Q, _, h => h
 | .goto _, _, _, _, h => h.elim
 | .rangeFunc .., _, _, _, h => h.elim
 | .refuse _, _, _, _, h => h.elim
theorem fB (hS : aB C) (hM : C.P.follows .mixedOrders = true) {id : Nat} {l : List Oper} {st : ASt} {Q : Exit -> ASt -> Prop} (hok : (l.all λ o => match o.dst with | some d => decide (d < N) | none => true) = true) (h : eF C l.toArray l st (Q .normal)) : AW C N h0 (.region id l.toArray false) st Q :=
 aY hS hM (.region id l.toArray false) (by simp only [cq, Bool.not_false, Bool.true_or, Bool.and_true]; exact hok) h
theorem aA {α : Type} (hS : aB C) (hM : C.P.follows .mixedOrders = true) (hd : List Nat) {body : Code} {st : ASt} {Q : Exit -> ASt -> Prop} (Sf : α -> ASt) (pre : α -> Prop) (m : α -> Nat) (hok : cE C hd N body = true)
  (start : ∃ x, pre x /\ Weak C N h0 st (Sf x)) (step : ∀ x, pre x -> du C hd N h0 body (Sf x) (round Sf pre (λ x' => m x' < m x) N h0 C Q)) : AW C N h0 (.loop body) st Q :=
 gV Sf pre m start λ x hx => ay hS hM body hok (step x hx)
end
section
variable {C : Ctx} (hS : aB C) (hM : C.P.follows .mixedOrders = true) {f : FuncId} {fn : Func} {body : Code} {rs : List ResultVar} {n : Nat} (hf : C.P.funcs[f]? = some fn) (hb : fn.body = some body) (hrs : fn.results.toList = rs) (hn : fn.ntmps = n) (hd : List Nat)
include hS hM hf hb hrs hn
theorem jo {α : Type} [Enc α] (hok : cE C hd n body = true) (hnn : 1 <= n) {pre : α -> Prop} {res : α -> AV} (h : ∀ a, pre a -> du C hd n 0 body ⟨[(0, Enc.enc a)], []⟩ (fY C rs (res a))) : PureOK C.P C.G f (aN pre res) :=
 dZ hf hb hrs hn λ avs ob r' hp hob => by
  unfold aN at hp
  split at hp
  ·injection hp with hp; injection hp with e1 e2; subst e1 e2
   have := h _ hob.2
   rw [<- hob.1] at this
   exact ⟨hnn, ay hS hM body hok this⟩
  ·cases hp
theorem hZ {α β : Type} [Enc α] [Enc β] (hok : cE C hd n body = true) (hnn : 2 <= n) {pre : α -> β -> Prop} {res : α -> β -> AV} (h : ∀ a b, pre a b -> du C hd n 0 body ⟨[(0, Enc.enc a), (1, Enc.enc b)], []⟩ (fY C rs (res a b))) : PureOK C.P C.G f (aW pre res) :=
 dZ hf hb hrs hn λ avs ob r' hp hob => by
  unfold aW at hp
  split at hp
  ·injection hp with hp; injection hp with e1 e2; subst e1 e2
   have := h _ _ hob.2.2
   rw [<- hob.1, <- hob.2.1] at this
   exact ⟨hnn, ay hS hM body hok this⟩
  ·cases hp
theorem DO {α β γ : Type} [Enc α] [Enc β] [Enc γ] (hok : cE C hd n body = true) (hnn : 3 <= n) {pre : α -> β -> γ -> Prop} {res : α -> β -> γ -> AV} (h : ∀ a b c, pre a b c -> du C hd n 0 body ⟨[(0, Enc.enc a), (1, Enc.enc b), (2, Enc.enc c)], []⟩ (fY C rs (res a b c))) : PureOK C.P C.G f (eV pre res) :=
 dZ hf hb hrs hn λ avs ob r' hp hob => by
  unfold eV at hp
  split at hp
  ·injection hp with hp; injection hp with e1 e2; subst e1 e2
   have := h _ _ _ hob.2.2.2
   rw [<- hob.1, <- hob.2.1, <- hob.2.2.1] at this
   exact ⟨hnn, ay hS hM body hok this⟩
  ·cases hp
theorem Aa {α : Type} [Enc α] (hok : cE C hd n body = true) (hnn : 1 <= n) {pre : α -> Prop} {res : α -> AV} {bl : α -> List Blk} (s : α -> List Nat) (hs : ∀ a, (s a).Nodup) (ho : ∀ a, okR (bl a).length (res a) = true /\ (bl a).all (okB (bl a).length) = true)
  (h : ∀ a, pre a -> du C hd n 0 body ⟨[(0, Enc.enc a)], []⟩ (B6 C n 0 (Ah C rs (s a) (res a) (bl a)))) : bg C.P C.G f (bY (ki pre res bl)) :=
 si hf hb hrs hn λ avs ob r' N' hp hob => by
  unfold ki at hp
  split at hp
  ·injection hp with hp; injection hp with e1 e2; injection e2 with e2 e3; subst e1 e2 e3
   rename_i a0
   have := h _ hob.2
   rw [<- hob.1] at this
   exact ⟨hnn, (ho _).1, (ho _).2, s (Enc.dec a0), hs _, xA (ay hS hM body hok this)⟩
  ·cases hp
theorem Ok {α β : Type} [Enc α] [Enc β] (hok : cE C hd n body = true) (hnn : 2 <= n) {pre : α -> β -> Prop} {res : α -> β -> AV} {bl : α -> β -> List Blk} (s : α -> β -> List Nat) (hs : ∀ a b, (s a b).Nodup) (ho : ∀ a b, okR (bl a b).length (res a b) = true /\ (bl a b).all (okB (bl a b).length) = true)
  (h : ∀ a b, pre a b -> du C hd n 0 body ⟨[(0, Enc.enc a), (1, Enc.enc b)], []⟩ (B6 C n 0 (Ah C rs (s a b) (res a b) (bl a b)))) : bg C.P C.G f (bY (pV pre res bl)) :=
 si hf hb hrs hn λ avs ob r' N' hp hob => by
  unfold pV at hp
  split at hp
  ·injection hp with hp; injection hp with e1 e2; injection e2 with e2 e3; subst e1 e2 e3
   rename_i a0 b0
   have := h _ _ hob.2.2
   rw [<- hob.1, <- hob.2.1] at this
   exact ⟨hnn, (ho _ _).1, (ho _ _).2, s (Enc.dec a0) (Enc.dec b0), hs _ _, xA (ay hS hM body hok this)⟩
  ·cases hp
end
section
variable {C : Ctx} {N h0 : Nat}
theorem fu {ρ : List (Nat × AV)} {H : List Blk} (l i j sz : Nat) (e : TypeId) {b : Blk} {r : List AV} (hb : H[l]? = some b) (hr : b.rows[i]? = some r) (hj : r[j]? = some (.slice sz true [])) (hz : 0 < sz) (hzb : 0 < b.sz := by first | decide | omega | simp) :
  Weak C N h0 ⟨ρ, H⟩ ⟨ρ, (H ++ [(⟨e, sz, [], true, true⟩ : Blk)]).set l { b with rows := b.rows.set i (r.set j (.own H.length 0)), deep := false }⟩ := by
 intro X w0 β0 H0 a w hl hrel
 obtain ⟨β, R, S0, Tr, G, hN, hdef⟩ := hrel
 have hk := Keeps.refl (λ _ => False) w
 have S1 := dL (w' := w) R hk .nil ⟨e, sz, [], true, true⟩ (λ bk c e => by cases e)
 have R1 := d9 R hk .nil ⟨e, sz, [], true, true⟩ (λ bk c e => by cases e) (λ bk c e => by cases e) ⟨rfl, hz⟩
 have hlt := (List.getElem?_eq_some_iff.1 hb).1
 have hb1 : (H ++ [(⟨e, sz, [], true, true⟩ : Blk)])[l]? = some b := by rw [getElem?_append_left hlt]; exact hb
 obtain ⟨bi, hbi⟩ : ∃ bi, (β ++ [BI.nil])[l]? = some bi := by
  refine ⟨(β ++ [BI.nil])[l]'(by have h2 : β.length = H.length := R.len; simp; omega), getElem?_eq_getElem _⟩
 have S2 := d4 R1 hb1 hbi bi { b with rows := b.rows.set i (r.set j (.own H.length 0)), deep := false } rfl rfl (by simp) (λ _ => rfl) id (λ bk c e => .inr ⟨c, e⟩) (Keeps.refl _ w)
 have R2 := d3 R1 hb1 hbi bi { b with rows := b.rows.set i (r.set j (.own H.length 0)), deep := false } S2 (λ _ _ _ _ _ => rfl) (by
  have hB := R1.blk l bi b hbi hb1
  cases bi with
  | nil => rw [hB.1] at hr; simp at hr
  | lies bk cap =>
   obtain ⟨cur, k1, k2, k3, k4, k5, k6, k7⟩ := hB.cells hzb
   refine .inl ⟨cur, k1, k2, by simpa using k3, k4, k5, λ r' hr' => ?_, λ i' j' r' av hr' hj' => ?_⟩
   ·rcases List.mem_or_eq_of_mem_set hr' with h | h
    ·exact k6 r' h
    ·rw [h, List.length_set]; exact k6 r (mem_of_getElem? hr)
   ·simp only at hr'
    by_cases e1 : i = i'
    ·subst e1
     rw [getElem?_set_self (List.getElem?_eq_some_iff.1 hr).1] at hr'
     injection hr' with hr'
     subst hr'
     by_cases e2 : j = j'
     ·subst e2
      rw [getElem?_set_self (List.getElem?_eq_some_iff.1 hj).1] at hj'
      injection hj' with hj'
      subst hj'
      obtain ⟨v, q1, q2, q3, q4⟩ := k7 i j r _ hr hj
      refine ⟨v, q1, q2, ?_, λ h => by cases h⟩
      obtain ⟨a0, cap0, val, h2, h3, h4, h5, _⟩ := dC (dO q3)
      rw [h2]
      have hcap := h5 rfl
      simp only [List.length_nil] at hcap
      have hne : H.length ≠ l := by omega
      refine .own H.length 0 a0 cap0 ⟨e, sz, [], true, true⟩ ?_ ⟨hz, le_refl _⟩ (.inl rfl) (zero_le _) λ _ => ?_
      ·rw [getElem?_set_ne (λ h => hne h.symm)]
       exact bn H _
      ·have e3 : (β ++ [BI.nil]).set l (BI.lies bk cap) = β ++ [BI.nil] := by
        refine ext_getElem? λ k => ?_
        by_cases e : l = k
        ·subst e
         rw [getElem?_set_self (List.getElem?_eq_some_iff.1 hbi).1, hbi]
        ·rw [getElem?_set_ne e]
       rw [e3, <- R.len, bn]
       exact ⟨rfl, hcap⟩
     ·rw [getElem?_set_ne e2] at hj'
      obtain ⟨v, q1, q2, q3, q4⟩ := k7 i j' r av hr hj'
      exact ⟨v, q1, q2, q3.keep S2, λ h => by cases h⟩
    ·rw [getElem?_set_ne e1] at hr'
     obtain ⟨v, q1, q2, q3, q4⟩ := k7 i' j' r' av hr' hj'
     exact ⟨v, q1, q2, q3.keep S2, λ h => by cases h⟩)
  (λ bk c e => by subst e; exact R1.lt l bk c hbi) (λ bk c l' c' e hne h => by subst e; exact hne (R1.inj l' l bk c' c h hbi))
 have S := S1.trans S2
 exact ⟨_, R2, S0.trans S, λ k => (Tr k).keep S, λ g => (G g).keep (λ b hb hn => S.keeps.block b hb (λ hm => hn (.inr hm))) S.keeps.size (λ b hb => S.mu b hb), hN, hdef⟩
def AV.clean2 (m : Nat) : AV -> Bool
 | .fn _ cs => cs.all (AV.clean1 m)
 | v => v.clean1 m
def AV.cleanF (m : Nat) : AV -> Bool
 | .agg cs => cs.all (AV.clean2 m)
 | .tup cs => cs.all (AV.clean2 m)
 | v => v.clean2 m
theorem jr {w : World} {X : Nat -> Prop} {β : List BI} {H : List Blk} {m : Nat} {v : Value} {av : AV} (hc : av.clean2 m = true) (h : Rep w (Mu X β H) β H v av) : Rep w (Mu X (β.take m) (H.take m)) (β.take m) (H.take m) v av := by
 cases av with
 | fn f cells =>
  obtain ⟨cs, val, rfl, hl, hm, hv⟩ := lE h
  exact .fn f cs cells val hl hm λ j u hj => fL (all_eq_true.1 hc u (mem_of_getElem? hj)) (hv j u hj)
 | _ => exact fL hc h
theorem qc {w : World} {X : Nat -> Prop} {β : List BI} {H : List Blk} {m : Nat} {v : Value} {av : AV} (hc : av.cleanF m = true) (h : Rep w (Mu X β H) β H v av) : Rep w (Mu X (β.take m) (H.take m)) (β.take m) (H.take m) v av := by
 cases av with
 | agg cells =>
  obtain ⟨cs, val, rfl, hl, hm, hv⟩ := eB h
  exact .agg cs cells val hl hm λ j u hj => jr (all_eq_true.1 hc u (mem_of_getElem? hj)) (hv j u hj)
 | tup cells =>
  obtain ⟨cs, val, rfl, hl, hm, hv⟩ := fT h
  exact .tup cs cells val hl hm λ j u hj => jr (all_eq_true.1 hc u (mem_of_getElem? hj)) (hv j u hj)
 | _ => exact jr hc h
theorem jB {ρ : List (Nat × AV)} {H : List Blk} (m : Nat) (hm : h0 <= m) (hρ : ∀ p ∈ ρ, p.2.cleanF m = true) (hH : ∀ b ∈ H.take m, b.deep = true ∨ ∀ r ∈ b.rows, ∀ c ∈ r, c.cleanF m = true) : Weak C N h0 ⟨ρ, H⟩ ⟨ρ, H.take m⟩ := by
 intro X w0 β0 H0 a w hl hr
 obtain ⟨β, R, S0, Tr, G, hN, hdef⟩ := hr
 have hcl : ∀ t, (aQ ρ t).cleanF m = true := by
  intro t
  have key : ∀ l : List (Nat × AV), (∀ p ∈ l, p.2.cleanF m = true) -> (aQ l t).cleanF m = true := by
   intro l
   induction l with
   | nil => intro _; rfl
   | cons p r ih =>
    intro hp
    obtain ⟨k, v⟩ := p
    simp only [aQ]
    split
    ·exact hp (k, v) (by simp)
    ·exact ih λ q hq => hp q (mem_cons_of_mem _ hq)
  exact key ρ hρ
 refine ⟨β.take m, ⟨by simp [R.len], λ l bi b h1 h2 => ?_, λ l b c h1 => ?_, λ l l' b c c' h1 h2 => ?_, R.base⟩, ⟨S0.keeps, ⟨λ l b h => ?_, λ l bk c h => ?_⟩, S0.len⟩, λ t => qc (hcl t) (Tr t), λ g => (G g).mono λ b _ hb => hb.take, hN, hdef⟩
 ·rw [getElem?_take] at h1 h2
  split at h1
  ·rename_i hlm
   rw [if_pos hlm] at h2
   have hB := R.blk l bi b h1 h2
   cases bi with
   | nil => exact hB
   | lies bk cap =>
    have hmem : b ∈ H.take m := mem_of_getElem? (by rw [getElem?_take, if_pos hlm]; exact h2)
    rcases hB with ⟨cur, k1, k2, k3, k4, k5, k6, k7⟩ | ⟨hz, hd, es, clock, ents, k1, k2, k3⟩
    ·refine .inl ⟨cur, k1, k2, k3, k4, k5, k6, λ i j r av hr hj => ?_⟩
     obtain ⟨v, q1, q2, q3, q4⟩ := k7 i j r av hr hj
     have q4' : b.deep = true -> RepD w (Mu X (β.take m) (H.take m)) v av := λ hd => (q4 hd).mono λ b _ hb => hb.take
     refine ⟨v, q1, q2, ?_, q4'⟩
     rcases hH b hmem with h | h
     ·exact .deep (q4' h)
     ·exact qc (h r (mem_of_getElem? hr) av (mem_of_getElem? hj)) q3
    ·refine .inr ⟨hz, hd, es, clock, ents, k1, k2, k3.len, k3.max, k3.st, λ i e he => ?_⟩
     obtain ⟨k, v, q1, q2, q3⟩ := k3.ent i e he
     refine ⟨k, v, q1, q2, ?_⟩
     have hcl := ((hH b hmem).resolve_left (by rw [hd]; decide)) ents (by rw [k2]; exact mem_cons_self ..) _ (mem_of_getElem? q1)
     simp only [AV.cleanF, all_cons, Bool.and_eq_true] at hcl
     exact jr hcl.2.1 q3
  ·cases h1
 ·rw [getElem?_take] at h1
  split at h1
  ·exact R.lt l b c h1
  ·cases h1
 ·rw [getElem?_take] at h1 h2
  split at h1
  ·split at h2
   ·exact R.inj l l' b c c' h1 h2
   ·cases h2
  ·cases h1
 ·obtain ⟨b', e1, e2, e3, e4, e5, e6⟩ := S0.grow.old l b h
  have hlm : l < m := by have := (List.getElem?_eq_some_iff.1 h).1; omega
  refine ⟨b', by simp only [getElem?_take, if_pos hlm]; exact e1, e2, e3, e4, λ e => ?_, e6⟩
  rw [getElem?_take, if_pos hlm]
  exact e5 e
 ·rw [getElem?_take] at h
  split at h
  ·exact S0.grow.at_ l bk c h
  ·cases h
end
section
variable {C : Ctx} {N h0 : Nat}
def Gi (C : Ctx) (rs : List ResultVar) (r : AV) (st : ASt) : Prop :=
 match bR C st rs with
 | some (ob, r') => ob /\ aX st.H 6 r' = r
 | none => False
def wF (C : Ctx) (rs : List ResultVar) (r : AV) : Exit -> ASt -> Prop
 | .normal, st => Gi C rs r st
 | .ret, st => Gi C rs r st
 | _, _ => False
def Iy (H : List Blk) (r : AV) (o : Option (Prop × AV)) : Prop := match o with | some (ob, r') => ob /\ aX H 6 r' = r | none => False
@[simp] theorem JR (H : List Blk) (r r' : AV) (ob : Prop) : Iy H r (some (ob, r')) = (ob /\ aX H 6 r' = r) := rfl
@[simp] theorem MS (rs : List ResultVar) (r : AV) (ρ : List (Nat × AV)) (H : List Blk) : wF C rs r .ret ⟨ρ, H⟩ = Iy H r (bR C ⟨ρ, H⟩ rs) := rfl
@[congr] theorem Kl {rs : List ResultVar} {r : AV} {ex ex' : Exit} {st st' : ASt} (h : eH ex = ex') (h' : st = st') : wF C rs r ex st = wF C rs r ex' st' := by rw [bK] at h; rw [h, h']
theorem wK {f : FuncId} {fn : Func} {body : Code} {rs : List ResultVar} {n : Nat} (hf : C.P.funcs[f]? = some fn) (hb : fn.body = some body) (hrs : fn.results.toList = rs) (hn : fn.ntmps = n) {p : List AV -> Option (Prop × AV)}
  (h : ∀ avs ob r, p avs = some (ob, r) -> ob -> avs.length <= n /\ AW C n 0 body ⟨argsρ 0 (avs.map bq), []⟩ (wF C rs r)) : PureOK C.P C.G f p := by
 subst hrs hn
 intro w X args avs0 ob r hX hG hsz0 harg0 hp hob
 obtain ⟨hlen0, hav0⟩ := h avs0 ob r hp hob
 generalize havs : avs0.map bq = avs at hav0
 have hlen : avs.length <= fn.ntmps := by rw [<- havs]; simpa using hlen0
 have hsz : args.size = avs.length := by rw [<- havs]; simpa using hsz0
 have harg : ∀ (j : Nat) (u : AV), avs[j]? = some u -> ∃ v, args[j]? = some v /\ RepD w X v u := λ j u hu => by
  rw [<- havs, getElem?_map] at hu
  simp only [map_eq_some_iff] at hu
  obtain ⟨av, hav, rfl⟩ := hu
  obtain ⟨v, h1, h2⟩ := harg0 j av hav
  exact ⟨v, h1, dM h2⟩
 refine calls_of_wp hf hb ?_
 have hMu : ∀ b, Mu X [] [] b -> X b := by
  rintro b (h | ⟨l, c, blk, h1, _, _⟩)
  ·exact h
  ·simp at h1
 have R : HRel w X [] [] := ⟨rfl, λ l bi b h1 _ => by simp at h1, λ l b c h1 => by simp at h1, λ l l' b c c' h1 => by simp at h1, hX⟩
 have hr : Rel C fn.ntmps X w [] [] ⟨argsρ 0 avs, []⟩ { tmps := args ++ Array.replicate (fn.ntmps - args.size) undef, defers := [] } w :=
  ⟨[], R, StepR.refl _ _ _ rfl, ed hsz (λ j u hj => let ⟨v, h1, h2⟩ := harg j u hj; ⟨v, h1, .deep (h2.mono λ b _ hb => hMu b hb)⟩), λ g => (hG g).mono λ b _ hb => hMu b hb, by simp; omega, rfl⟩
 refine Code.wp_mono (λ ex a' w' ⟨st', hq, hr'⟩ => ?_) (hav0 X w [] [] _ w rfl hr)
 have fin : Gi C fn.results.toList r st' -> bodyPost C.P fn (λ e w' => ∃ v, e = .returned v /\ Keeps (λ _ => False) w w' /\ RepD w' X v r) .normal a' w' := by
  unfold Gi
  split
  ·rename_i ob' r' hres
   rintro ⟨hob', hview⟩
   obtain ⟨β', R', S', T', G', hN', hdef'⟩ := hr'
   obtain ⟨u, hu, hrep⟩ := ck R' T' hres hob'
   have hv := (cw R' (λ _ => True) 6 hrep (λ _ _ => trivial)).mono (X' := X) λ b _ hb => .inl hb
   rw [hview] at hv
   exact ⟨hdef', u, hu, u, rfl, S'.keeps.weaken (λ b _ h => by obtain ⟨l, c, blk, h1, _, _⟩ := h; simp at h1), hv⟩
  ·intro h; exact h.elim
 cases ex with
 | normal => exact fin hq
 | ret => exact fin hq
 | _ => exact hq.elim
theorem KP (hS : aB C) (hM : C.P.follows .mixedOrders = true) {f : FuncId} {fn : Func} {body : Code} {rs : List ResultVar} {n : Nat} (hf : C.P.funcs[f]? = some fn) (hb : fn.body = some body) (hrs : fn.results.toList = rs) (hn : fn.ntmps = n) {α : Type} [Enc α] (hok : cq C n body = true) (hnn : 1 <= n) {pre : α -> Prop} {res : α -> AV}
  (h : ∀ a, pre a -> avc C n 0 body ⟨[(0, Enc.enc a)], []⟩ (wF C rs (res a))) : PureOK C.P C.G f (aN pre res) :=
 wK hf hb hrs hn λ avs ob r' hp hob => by
  unfold aN at hp
  split at hp
  ·injection hp with hp; injection hp with e1 e2; subst e1 e2
   have := h _ hob.2
   rw [<- hob.1] at this
   exact ⟨hnn, aY hS hM body hok this⟩
  ·cases hp
end
theorem cU {C : Ctx} {N h0 : Nat} {ρ ρ' : List (Nat × AV)} {H H' : List Blk} (m : Nat) (h : ∀ p ∈ ρ', aQ ρ p.1 = p.2) (hm : h0 <= m) (hρ : ∀ p ∈ ρ', p.2.cleanF m = true) (hH : ∀ b ∈ H.take m, b.deep = true ∨ ∀ r ∈ b.rows, ∀ c ∈ r, c.cleanF m = true) (hE : H.take m = H') : Weak C N h0 ⟨ρ, H⟩ ⟨ρ', H'⟩ := by
 subst hE
 exact (ar h).trans (jB m hm hρ hH)
section
variable {α : Type} (l : List α) (a b c d : α) (r : List α)
theorem Cz (x : α) : (l ++ a :: r).set l.length x = l ++ x :: r := by rw [List.set_append_right _ _ (le_refl _), Nat.sub_self]; rfl
end
theorem di {C : Ctx} {N h0 : Nat} {ρ ρ' : List (Nat × AV)} {H H' : List Blk} (h : ∀ p ∈ ρ', aQ ρ p.1 = p.2) (hH : H = H') : Weak C N h0 ⟨ρ, H⟩ ⟨ρ', H'⟩ := by
 subst hH
 exact ar h
section
variable {C : Ctx} {N h0 : Nat}
theorem wo {α β : Type} (hS : aB C) (hM : C.P.follows .mixedOrders = true) {body : Code} {st : ASt} {Q : Exit -> ASt -> Prop} (id : Nat) (E : β -> ASt) (post : β -> Prop) (Sf : α -> ASt) (pre : α -> Prop) (m : α -> Nat) (hok : cq C N body = true)
  (start : ∃ x, pre x /\ Weak C N h0 st (Sf x)) (step : ∀ x, pre x -> avc C N h0 body (Sf x) (round Sf pre (λ x' => m x' < m x) N h0 C (λ ex s => ex = .exit id /\ ∃ y, post y /\ Weak C N h0 s (E y))))
  (rest : ∀ y, post y -> Q (.exit id) (E y)) : AW C N h0 (.loop body) st Q :=
 xA (AW.mono (aT hS hM Sf pre m hok start step) (λ ex s h => by
  obtain ⟨he, y, hy, hw⟩ := h
  subst he
  exact ⟨E y, hw, rest y hy⟩))
end
section
variable {C : Ctx} (hS : aB C) (hM : C.P.follows .mixedOrders = true) {f : FuncId} {fn : Func} {body : Code} {rs : List ResultVar} {n : Nat} (hf : C.P.funcs[f]? = some fn) (hb : fn.body = some body) (hrs : fn.results.toList = rs) (hn : fn.ntmps = n) (hd : List Nat)
include hS hM hf hb hrs hn
end
def AM (C : Ctx) (ρ : List (Nat × AV)) (H : List Blk) (t : TypeId) (parts : List (Nat × Operand)) : Option (Prop × AV × List Blk) :=
 match elT C.P t, parts with
 | some e, [(0, x)] =>
  match cj C.P e, zT C.P e with
  | some false, some _ => if (aev C ρ e x).isCell = true /\ szT C.P e = 1 then some (True, .own H.length 1, H ++ [⟨e, 1, [[aev C ρ e x]], true, (aev C ρ e x).isDeep⟩]) else none
  | _, _ => none
 | _, _ => none
def Ja (C : Ctx) (H : List Blk) (t : TypeId) (d s : AV) : Option (Prop × AV × List Blk) :=
 match elT C.P t, d, s with
 | some e, .own l n, .slice sz _ ys =>
  match H[l]? with
  | some b => if b.mu = true /\ b.sz = szT C.P e /\ sz = szT C.P e then some (b.rows.length = n /\ 0 < ys.length /\ ys.length <= n, .int .i64 ys.length, H.set l { b with rows := ys ++ b.rows.drop ys.length, deep := b.deep && true }) else none
  | none => none
 | _, _, _ => none
def xP (C : Ctx) (st : ASt) (o : Oper) : Option (Prop × AV × List Blk) :=
 match o.op with
 | .buildSlice t 1 parts => AM C st.ρ st.H t parts.toList
 | .call c => match c.callee, c.args.toList, c.argTypes.toList with
  | .builtin .copy, [d, s], [t, t'] => if t = t' then Ja C st.H t (aev C st.ρ t d) (aev C st.ρ t' s) else none
  | _, _, _ => aL C st o
 | _ => aL C st o
def zk (C : Ctx) (ops : Array Oper) : List Oper -> ASt -> (ASt -> Prop) -> Prop
 | [], st, K => K st
 | o :: r, st, K =>
  match b9 ops st.ρ o with
  | none => False
  | some g =>
   (g = true -> match xP C st o with
    | some (ob, v, H') => ob /\ zk C ops r ⟨dP st.ρ o.dst v, H'⟩ K
    | none => False) /\
   (g = false -> zk C ops r ⟨dP st.ρ o.dst (.tup []), st.H⟩ K)
section
variable {C : Ctx} {N h0 : Nat} {X : Nat -> Prop} {β : List BI} {H : List Blk} {w w0 : World} {β0 : List BI} {H0 : List Blk}
end
@[congr] theorem H9 {C : Ctx} {ops : Array Oper} {l : List Oper} {st st' : ASt} {K : ASt -> Prop} (h : eH st = st') : zk C ops l st K = zk C ops l st' K := by rw [bK] at h; rw [h]
@[congr] theorem IL {C : Ctx} {st st' : ASt} {o : Oper} (h : eH st = st') : xP C st o = xP C st' o := by rw [bK] at h; rw [h]
section
variable {C : Ctx} (ρ : List (Nat × AV)) (H : List Blk) (d : Option Tmp) (ty : TypeId) (p : String) (af : Array Edge) (g : Option (Nat × Bool))
end
def vG (hl : Nat) (H : List Blk) (r : AV) (H' : List Blk) : Prop := ∃ m, hl <= m /\ H.take m = H' /\ r.cleanF m = true /\ ∀ b ∈ H', b.deep = true ∨ ∀ r ∈ b.rows, ∀ c ∈ r, c.cleanF m = true
def rM (hl : Nat) (H : List Blk) (r : AV) (H' : List Blk) (o : Option (Prop × AV)) : Prop := match o with | some (ob, r') => ob /\ r' = r /\ vG hl H r H' | none => False
@[simp] theorem JP (hl : Nat) (H : List Blk) (r r' : AV) (H' : List Blk) (ob : Prop) : rM hl H r H' (some (ob, r')) = (ob /\ r' = r /\ vG hl H r H') := rfl
def Gg (C : Ctx) (rs : List ResultVar) (hl : Nat) (r : AV) (H' : List Blk) : Exit -> ASt -> Prop
 | .normal, st => rM hl st.H r H' (bR C st rs)
 | .ret, st => rM hl st.H r H' (bR C st rs)
 | _, _ => False
@[congr] theorem MH {C : Ctx} {rs : List ResultVar} {hl : Nat} {r : AV} {H' : List Blk} {ex ex' : Exit} {st st' : ASt} (h : eH ex = ex') (h' : st = st') : Gg C rs hl r H' ex st = Gg C rs hl r H' ex' st' := by rw [bK] at h; rw [h, h']
@[simp] theorem NV (C : Ctx) (rs : List ResultVar) (hl : Nat) (r : AV) (H' : List Blk) (ρ : List (Nat × AV)) (H : List Blk) : Gg C rs hl r H' .ret ⟨ρ, H⟩ = rM hl H r H' (bR C ⟨ρ, H⟩ rs) := rfl
theorem DV {C : Ctx} {w w' : World} {X : Nat -> Prop} {β β' : List BI} {H H1 : List Blk} {u : Value} {r : AV} (R : HRel w' X β' H1) (S : StepR w β H w' β' H1) (G : lL C w' (Mu X β' H1)) (hr : Rep w' (Mu X β' H1) β' H1 u r) {H' : List Blk} (hd : vG H.length H1 r H') :
  ∃ β2, HRel w' X β2 H' /\ StepR w β H w' β2 H' /\ Rep w' (Mu X β2 H') β2 H' u r := by
 obtain ⟨m, h1, rfl, h3, h4⟩ := hd
 have hrel : Rel C 1 X w β H ⟨[(0, r)], H1⟩ { tmps := #[u], defers := [] } w' := ⟨β', R, S, λ t => by
  match t with
  | 0 => exact hr
  | t + 1 => exact kM, G, rfl, rfl⟩
 obtain ⟨β2, R2, S2, T2, _⟩ := jB (C := C) (N := 1) (h0 := H.length) m h1 (λ p hp => by rw [List.mem_singleton] at hp; rw [hp]; exact h3) h4 X w β H _ w' rfl hrel
 exact ⟨β2, R2, S2, T2 0⟩
def gv (a : Act) (ds : List Deferred) : Act := { a with defers := a.defers ++ ds }
theorem gU (a : Act) (ds : List Deferred) (d : Option Tmp) (v : Value) : gv (a.put d v) ds = (gv a ds).put d v := by
 cases d <;> rfl
theorem zc (a : Act) (ds : List Deferred) : (gv a ds).eval = a.eval := rfl
def PR (ds : List Deferred) (Q : Exit -> Act -> World -> Prop) (ex : Exit) (a' : Act) (w' : World) : Prop := ∃ a'', Q ex a'' w' /\ a' = gv a'' ds
def kD (ro : Option Nat) : Fence := { Fence.wide with round := ro }
theorem F4 {ro : Option Nat} {n : Nat} {P : Program} {f : FuncId} {args : Array Value} {w : World} {R : Ending -> World -> Prop} (h : Calls P f args w R) : CallsIn (kD ro) n P f args w R := by
 have h := (callsIn_wide (n := n)).2 h
 cases ro with
 | none => exact h
 | some l => exact h
theorem KW {ro : Option Nat} {n : Nat} {P : Program} {row : String} {args : Array Value} {w : World} {R : Value -> World -> Prop} (h : Rows P row args w R) : RowsIn (kD ro) n P row args w R := by
 intro c cs _
 obtain ⟨v, w', r, s⟩ := h c cs
 refine ⟨v, w', r, ?_⟩
 have : ∀ m m', Steps P m m' -> StepsIn (Machine.fenced P Fence.wide) P m m' := λ m m' h => stepsIn_wide.2 h
 exact this _ _ s
theorem CG {P : Program} {ro : Option Nat} {n : Nat} {ops : Array Oper} {Q : Exit -> Act -> World -> Prop} (hQ : ∀ a w, ¬ Q .outgrown a w) (ds : List Deferred) : ∀ (l : List Oper), (∀ o ∈ l, ∀ c, o.op ≠ .defer c) -> ∀ {a : Act} {w : World}, wpList P ops Q l a w ->
  wpListIn (kD ro) n P ops (PR ds Q) l (gv a ds) w
 | [], _, a, w, h => ⟨a, h, rfl⟩
 | o :: r, hd, a, w, h => by
  have ih := λ {a : Act} {w : World} => CG (P := P) (ro := ro) (n := n) (ops := ops) hQ ds r (λ o ho => hd o (mem_cons_of_mem _ ho)) (a := a) (w := w)
  unfold wpList at h
  unfold wpListIn
  have hw : Region.wanted o (yielded ops (gv a ds).tmps) = Region.wanted o (yielded ops a.tmps) := rfl
  rw [hw]
  split
  ·rename_i hw1
   rw [if_pos hw1] at h
   rcases h with h | ⟨_, a0, w0, h⟩
   ·refine ⟨λ _ _ => trivial, ?_⟩
    rw [zc, Oper.semAt_eq _ _ _ (hd o (mem_cons_self ..))]
    unfold Oper.wp at h
    generalize (execOp a.eval o).run P w = res at h
    unfold Oper.upon at h
    unfold Oper.uponIn
    split at h
    ·rename_i v w'
     show wpListIn (kD ro) n P ops (PR ds Q) r ((gv a ds).put o.dst v) w'
     rw [<- gU]; exact ih h
    ·rename_i w'
     show wpListIn (kD ro) n P ops (PR ds Q) r ((gv a ds).put o.dst undef) w'
     rw [<- gU]; exact ih h
    ·rename_i d w'
     have := ih h
     rw [gU] at this
     exact this
    ·refine ⟨λ hd => (by cases hd), (F4 h).mono ?_⟩
     intro e w' he
     cases e with
     | returned v =>
      show wpListIn (kD ro) n P ops (PR ds Q) r ((gv a ds).put o.dst v) w'
      rw [<- gU]; exact ih he
     | panicked ch => exact ⟨a, he, rfl⟩
     | outgrown => obtain ⟨a0, w0, h0⟩ := he; exact absurd h0 (hQ _ _)
    ·refine ⟨λ hd => (by cases hd), (KW h).mono ?_⟩
     intro v w' he
     show wpListIn (kD ro) n P ops (PR ds Q) r ((gv a ds).put o.dst v) w'
     rw [<- gU]; exact ih he
    ·exact ⟨a, h, rfl⟩
    ·exact h.elim
   ·exact absurd h (hQ _ _)
  ·rename_i hw1
   rw [if_neg hw1] at h
   refine ⟨λ _ _ => trivial, ?_⟩
   rw [<- gU]
   exact ih h
def Ab : Oper -> Bool
 | ⟨_, .defer _, _, _, _, _⟩ => false
 | _ => true
theorem yi {o : Oper} (h : Ab o = true) (c : Call) : o.op ≠ .defer c := by
 rintro e
 obtain ⟨d, op, t, p, af, g⟩ := o
 simp only at e
 subst e
 cases h
def jT (N : Nat) : Code -> Bool
 | .skip => true
 | .region _ ops draw => !draw && (ops.toList.all λ o => match o.dst with | some d => decide (d < N) | none => true) && ops.toList.all Ab
 | .seq a b => jT N a && jT N b
 | .cond _ a b => jT N a && jT N b
 | .block _ b => jT N b
 | .ret => true
 | .exit _ => true
 | _ => false
section
variable {C : Ctx} {N h0 : Nat}
theorem eS (hS : aB C) {ro : Option Nat} {n : Nat} {ds : List Deferred} {X : Nat -> Prop} {w0 : World} {β0 : List BI} {H0 : List Blk} : ∀ (code : Code) {st : ASt} {Q : Exit -> ASt -> Prop}, jT N code = true -> du C [] N h0 code st Q -> ∀ {a : Act} {w : World}, Rel C N X w0 β0 H0 st a w ->
  code.wpIn (kD ro) n C.P (PR ds λ ex a' w' => ∃ st', Q ex st' /\ Rel C N X w0 β0 H0 st' a' w') (gv a ds) w
 | .skip, st, Q, _, h, a, w, hr => wpIn_skip ⟨a, ⟨st, h, hr⟩, rfl⟩
 | .ret, st, Q, _, h, a, w, hr => wpIn_ret ⟨a, ⟨st, h, hr⟩, rfl⟩
 | .exit id, st, Q, _, h, a, w, hr => wpIn_exit ⟨a, ⟨st, h, hr⟩, rfl⟩
 | .region id ops draw, st, Q, hok, h, a, w, hr => by
  simp only [jT, Bool.and_eq_true, Bool.not_eq_true'] at hok
  obtain ⟨⟨hdr, hd⟩, hnd⟩ := hok
  subst hdr
  have h : eF C ops ops.toList st (Q .normal) := h
  have hw := dr (Q := λ ex a' w' => ex = .normal /\ ∃ st', Q .normal st' /\ Rel C N X w0 β0 H0 st' a' w') hS (ops := ops) ops.toList (λ o ho d hd' => by
   have := all_eq_true.1 hd o ho
   rw [hd'] at this
   simpa using this) h hr λ st' a' w' hr' hk => ⟨rfl, st', hk, hr'⟩
  refine wpIn_mono (wpIn_region_list (CG (ro := ro) (n := n) (λ a w h => by cases h.1) ds ops.toList (λ o ho c => yi (all_eq_true.1 hnd o ho) c) hw)) ?_
  rintro e a' w' ⟨a'', ⟨rfl, h1⟩, h2⟩
  exact ⟨a'', h1, h2⟩
 | .seq x y, st, Q, hok, h, a, w, hr => by
  simp only [jT, Bool.and_eq_true] at hok
  have h : du C [] N h0 x st (rf (λ st' => du C [] N h0 y st' Q) Q) := h
  refine wpIn_seq (wpIn_mono (eS hS x hok.1 h hr) ?_)
  rintro e a' w' ⟨a'', ⟨st', hq, hr'⟩, rfl⟩
  cases e with
  | normal => exact eS hS y hok.2 hq hr'
  | _ => exact ⟨a'', ⟨st', hq, hr'⟩, rfl⟩
 | .block id x, st, Q, hok, h, a, w, hr => by
  simp only [jT] at hok
  have h : du C [] N h0 x st (iQ id Q) := h
  refine wpIn_block (wpIn_mono (eS hS x hok h hr) ?_)
  rintro e a' w' ⟨a'', ⟨st', hq, hr'⟩, rfl⟩
  cases e with
  | exit j =>
   simp only [Exit.inBlock, iQ] at hq ⊢
   split
   ·rename_i e; rw [if_pos e] at hq; exact ⟨a'', ⟨st', hq, hr'⟩, rfl⟩
   ·rename_i e; rw [if_neg e] at hq; exact ⟨a'', ⟨st', hq, hr'⟩, rfl⟩
  | _ => exact ⟨a'', ⟨st', hq, hr'⟩, rfl⟩
 | .cond c x y, st, Q, hok, h, a, w, hr => by
  simp only [jT, Bool.and_eq_true] at hok
  have h : eJ (aev C st.ρ 0 c) λ b => iz b (du C [] N h0 x st Q) (du C [] N h0 y st Q) := h
  have hr0 := hr
  obtain ⟨β, R, S0, Tr, G, hN, hdef⟩ := hr0
  have hE := cY Tr G 0 c
  unfold eJ at h
  split at h
  ·rename_i b hb
   rw [hb] at hE
   have hc : (gv a ds).eval c = .bool b := cR hE
   refine wpIn_cond hc ?_
   cases b
   ·exact eS hS y hok.2 (h.2 rfl) hr
   ·exact eS hS x hok.1 (h.1 rfl) hr
  ·rename_i hb
   rw [hb] at hE
   obtain ⟨b, hb'⟩ := mf hE
   have hc : (gv a ds).eval c = .bool b := hb'
   refine wpIn_cond hc ?_
   cases b
   ·exact eS hS y hok.2 (h.2.2 rfl) hr
   ·exact eS hS x hok.1 (h.1.1 rfl) hr
  ·exact h.elim
end
def rU : Obj -> Bool
 | .loop _ => true
 | .deferred _ => true
 | .mapIter _ _ _ _ => true
 | _ => false
theorem vn {w : World} {b c off : Nat} {v : Value} {o0 : Obj} (hb : w.heap[b]? = some o0) (ho : rU o0 = true) (hc : w.cell? ⟨c, off, none⟩ = some v) : c ≠ b := by
 rintro rfl
 unfold World.cell? at hc
 simp only at hc
 split at hc
 ·rename_i h
  rw [hb] at h
  cases h
  cases ho
 ·cases hc
theorem RepD.odd {w : World} {b : Nat} {o0 o : Obj} (hb : w.heap[b]? = some o0) (ho : rU o0 = true) {X : Nat -> Prop} {v : Value} {av : AV} (h : RepD w X v av) : RepD (w.putObj b o) X v av := by
 have hcell : ∀ {c off : Nat} {u : Value}, w.cell? ⟨c, off, none⟩ = some u -> (w.putObj b o).cell? ⟨c, off, none⟩ = some u := λ {c off u} hc => by
  have hne := vn hb ho hc
  rw [<- hc]
  exact World.cell?_of_block (World.putObj_heap_other hne)
 induction h with
 | undef v => exact .undef v
 | bool b => exact .bool b
 | int k n => exact .int k n
 | str s => exact .str s
 | nilptr => exact .nilptr
 | anyb b => exact .anyb b
 | mapp b => exact .mapp b
 | itp r => exact .itp r
 | mapd c es clock kb ents hlt hx hm hst hl hmax he hk hv ih =>
  have hne : c ≠ b := by rintro rfl; rw [hb] at hm; cases hm; cases ho
  exact .mapd c es clock kb ents (by rw [World.putObj_size]; exact hlt) hx ((World.putObj_heap_other hne).trans hm) hst hl hmax he hk ih
 | tab c k zs t fr hc hx =>
  have hne : c ≠ b := by rintro rfl; rw [hb] at hc; cases hc; cases ho
  exact .tab c k zs t fr ((World.putObj_heap_other hne).trans hc) hx
 | slice sz full rows a n cap val hn h1 h2 h3 hr hm hv ih =>
  refine .slice sz full rows a n cap val hn h1 h2 h3 hr (λ h0 => ?_) ih
  obtain ⟨c, off, rfl, hlt, hx, hc⟩ := hm h0
  exact ⟨c, off, rfl, by rw [World.putObj_size]; exact hlt, hx, λ i j hi hj => ⟨hcell (hc i j hi hj).1, (hc i j hi hj).2⟩⟩
 | iptr c off cells val hlt hx hm hv ih => exact .iptr c off cells val (by rw [World.putObj_size]; exact hlt) hx (λ j hj => ⟨hcell (hm j hj).1, (hm j hj).2⟩) ih
 | agg cs cells val hl hm hv ih => exact .agg cs cells val hl hm ih
 | tup cs cells val hl hm hv ih => exact .tup cs cells val hl hm ih
 | fn f cs cells val hl hm hv ih => exact .fn f cs cells val hl hm ih
theorem Rep.odd {w : World} {b : Nat} {o0 o : Obj} (hb : w.heap[b]? = some o0) (ho : rU o0 = true) {X : Nat -> Prop} {β : List BI} {H : List Blk} {v : Value} {av : AV} (h : Rep w X β H v av) : Rep (w.putObj b o) X β H v av := by
 induction h with
 | deep h => exact .deep (h.odd hb ho)
 | own l n a cap b' hb' hn h0 hc hx => exact .own l n a cap b' hb' hn h0 hc hx
 | osl l n sz off len a cap b' hb' hn hle h0 hc hx => exact .osl l n sz off len a cap b' hb' hn hle h0 hc hx
 | ptr l n sz i f a b' hb' hn hx => exact .ptr l n sz i f a b' hb' hn hx
 | mapo l bk cap b' hb' hn hx => exact .mapo l bk cap b' hb' hn hx
 | agg cs cells val hl hm hv ih => exact .agg cs cells val hl hm ih
 | tup cs cells val hl hm hv ih => exact .tup cs cells val hl hm ih
 | fn f cs cells val hl hm hv ih => exact .fn f cs cells val hl hm ih
theorem HRel.odd {w : World} {b : Nat} {o0 o : Obj} (hb : w.heap[b]? = some o0) (ho : rU o0 = true) {X : Nat -> Prop} {β : List BI} {H : List Blk} (h : HRel w X β H) : HRel (w.putObj b o) X β H := by
 refine ⟨h.len, λ l bi bk h1 h2 => ?_, λ l c cap h1 => by rw [World.putObj_size]; exact h.lt l c cap h1, h.inj, λ c hc => by rw [World.putObj_size]; exact h.base c hc⟩
 have := h.blk l bi bk h1 h2
 cases bi with
 | nil => exact this
 | lies c cap =>
  rcases this with ⟨cur, k1, k2, k3, k4, k5, k6, k7⟩ | ⟨hz, hd, es', clock', ents, k1, k2, k3⟩
  case' inr =>
   have hne : c ≠ b := by rintro rfl; rw [hb] at k1; cases k1; cases ho
   refine .inr ⟨hz, hd, es', clock', ents, (World.putObj_heap_other hne).trans k1, k2, k3.len, k3.max, k3.st, λ i e he => ?_⟩
   obtain ⟨k, v, q1, q2, q3⟩ := k3.ent i e he
   exact ⟨k, v, q1, q2, q3.odd hb ho⟩
  have hne : c ≠ b := by rintro rfl; rw [hb] at k1; cases k1; cases ho
  refine .inl ⟨cur, (World.putObj_heap_other hne).trans k1, k2, k3, k4, k5, k6, λ i j r av hr hj => ?_⟩
  obtain ⟨v, q1, q2, q3, q4⟩ := k7 i j r av hr hj
  exact ⟨v, q1, q2, q3.odd hb ho, λ hd => (q4 hd).odd hb ho⟩
theorem GV.odd {P : Program} {w : World} {b : Nat} {o0 o : Obj} (hb : w.heap[b]? = some o0) (ho : rU o0 = true) {X : Nat -> Prop} {g : Nat} {av : AV} (h : GV P w X g av) : GV P (w.putObj b o) X g av := by
 cases av
 case mapof k e L =>
  obtain ⟨h1, h2⟩ := h
  refine ⟨h1.same (World.putObj_heap_other ?_), h2⟩
  rintro rfl
  obtain ⟨D, ⟨es, clock, q1, q2⟩, q3⟩ := h1
  rw [hb] at q1
  cases q1
  cases ho
 case own l n =>
  obtain ⟨⟨m, h1⟩, h2⟩ := h
  exact ⟨⟨m, (World.cell?_of_block (World.putObj_heap_other (vn hb ho h1))).trans h1⟩, h2⟩
 all_goals exact RepD.odd hb ho (show RepD w X _ _ from h)
section
variable {C : Ctx} {N : Nat} {X : Nat -> Prop} {w0 : World} {β0 : List BI} {H0 : List Blk} {st : ASt} {a : Act} {w : World}
theorem Rel.odd {b : Nat} {o0 o : Obj} (hb : w.heap[b]? = some o0) (ho : rU o0 = true) (hlo : w0.heap.size <= b) (h : Rel C N X w0 β0 H0 st a w) : Rel C N X w0 β0 H0 st a (w.putObj b o) := by
 obtain ⟨β, R, S, T, G, hN, hd⟩ := h
 refine ⟨β, R.odd hb ho, ⟨⟨S.keeps.os, S.keeps.tape, S.keeps.output, by rw [World.putObj_size]; exact S.keeps.size, λ c hc hn => (World.putObj_heap_other (by omega)).trans (S.keeps.block c hc hn), S.keeps.drawn⟩, S.grow, S.len⟩, λ t => (T t).odd hb ho, λ g => (G g).odd hb ho, hN, hd⟩
theorem Rel.alloc (o : Obj) (h : Rel C N X w0 β0 H0 st a w) : Rel C N X w0 β0 H0 st a (w.alloc o) := by
 obtain ⟨β, R, S, T, G, hN, hd⟩ := h
 have hk : Keeps (λ _ => False) w (w.alloc o) := Keeps.alloc _ _ _
 exact ⟨β, R.quiet hk, S.trans (StepR.quiet hk R.len), λ t => (T t).keep (StepR.quiet hk R.len), λ g => (G g).keep (λ b hb hn => hk.block b hb (λ h => h)) hk.size (λ b _ h => h), hN, hd⟩
theorem Rel.there {β1 : List BI} {w1 : World} {H1 : List Blk} (S0 : StepR w0 β0 H0 w1 β1 H1) (h : Rel C N X w1 β1 H1 st a w) : Rel C N X w0 β0 H0 st a w := by
 obtain ⟨β, R, S, T, G, hN, hd⟩ := h
 exact ⟨β, R, S0.trans S, T, G, hN, hd⟩
end
open Go.ChangeMaps (setBlock)
set_option linter.unusedSimpArgs false
def eK (s : Array Nat) (L : List (MapEntry × AV)) : List AV := (L.filter λ q => !s.contains q.1.born).map (·.2)
theorem sj {s : Array Nat} {b : Nat} : ∀ {L : List (MapEntry × AV)}, (∀ q ∈ L, q.1.born ≠ b) -> eK (s.push b) L = eK s L
 | [], _ => rfl
 | q :: L, h => by
  have ih := sj (s := s) (b := b) (L := L) λ q hq => h q (mem_cons_of_mem _ hq)
  have hq := h q mem_cons_self
  have e : (s.push b).contains q.1.born = s.contains q.1.born := by simp [hq]
  unfold eK at ih ⊢
  simp only [filter_cons, e]
  split
  ·simp only [map_cons, ih]
  ·exact ih
theorem wR {s : Array Nat} {p : MapEntry × AV} (hs : s.contains p.1.born = false) : ∀ {L : List (MapEntry × AV)}, (L.map (·.1.born)).Nodup -> p ∈ L -> (p.2 :: eK (s.push p.1.born) L).Perm (eK s L)
 | [], _, h => by cases h
 | q :: L, hn, h => by
  rw [map_cons, List.nodup_cons] at hn
  rcases mem_cons.1 h with rfl | h
  ·have e := sj (s := s) (b := p.1.born) (L := L) λ q hq e => hn.1 (mem_map.2 ⟨q, hq, e⟩)
   have e1 : eK (s.push p.1.born) (p :: L) = eK (s.push p.1.born) L := by simp [eK, filter_cons]
   have e2 : eK s (p :: L) = p.2 :: eK s L := by
    unfold eK
    rw [filter_cons, if_pos (by rw [hs]; rfl), map_cons]
   rw [e1, e2, e]
  ·have ih := wR hs hn.2 h
   have hne : q.1.born ≠ p.1.born := λ e => hn.1 (mem_map.2 ⟨p, h, e.symm⟩)
   have e : (s.push p.1.born).contains q.1.born = s.contains q.1.born := by simp [hne]
   cases c : s.contains q.1.born with
   | true =>
    have e1 : eK (s.push p.1.born) (q :: L) = eK (s.push p.1.born) L := by
     unfold eK; rw [filter_cons, if_neg (by rw [e, c]; simp)]
    have e2 : eK s (q :: L) = eK s L := by
     unfold eK; rw [filter_cons, if_neg (by rw [c]; simp)]
    rw [e1, e2]; exact ih
   | false =>
    have e1 : eK (s.push p.1.born) (q :: L) = q.2 :: eK (s.push p.1.born) L := by
     unfold eK; rw [filter_cons, if_pos (by rw [e, c]; rfl), map_cons]
    have e2 : eK s (q :: L) = q.2 :: eK s L := by
     unfold eK; rw [filter_cons, if_pos (by rw [c]; rfl), map_cons]
    rw [e1, e2]
    exact (List.Perm.swap _ _ _).trans (ih.cons _)
theorem DR {s : Array Nat} {es : Array MapEntry} {ents : List AV} (hl : es.size = ents.length) : (eK s (es.toList.zip ents)).length = (leftOf es s).size := by
 unfold eK leftOf
 rw [length_map, <- Array.length_toList, Array.toList_filter]
 have : ∀ (L : List MapEntry) (M : List AV), L.length = M.length -> ((L.zip M).filter λ q => !s.contains q.1.born).length = (L.filter λ e => !s.contains e.born).length := by
  intro L
  induction L with
  | nil => intro M _; rfl
  | cons x L ih =>
   intro M hM
   cases M with
   | nil => cases hM
   | cons y M =>
    rw [List.zip_cons_cons, filter_cons, filter_cons]
    have := ih M (by simpa using hM)
    split <;> simp_all
 exact this _ _ (by simpa using hl)
theorem H3 {es : List MapEntry} {ents : List AV} (hl : es.length = ents.length) : (es.zip ents).map (·.1.born) = es.map (·.born) := by
 rw [show (λ x : MapEntry × AV => x.1.born) = (λ e : MapEntry => e.born) ∘ Prod.fst from rfl, <- map_map, List.map_fst_zip (by omega)]
theorem DS {es : List MapEntry} {ents : List AV} (hl : es.length = ents.length) : eK #[] (es.zip ents) = ents := by
 unfold eK
 rw [List.filter_eq_self.2 (λ _ _ => by simp), List.map_snd_zip (by omega)]
section
variable {C : Ctx} {N h0 : Nat}
theorem qO (hS : aB C) {X : Nat -> Prop} {w0 : World} {β0 : List BI} {H0 : List Blk} {ops : Array Oper} {Q : Exit -> Act -> World -> Prop} {r2 : List Oper} : ∀ (l : List Oper), (∀ o ∈ l, ∀ d, o.dst = some d -> d < N) -> ∀ {st : ASt} {K : ASt -> Prop} {a : Act} {w : World}, eF C ops l st K -> Rel C N X w0 β0 H0 st a w ->
  (∀ st' a' w', Rel C N X w0 β0 H0 st' a' w' -> K st' -> wpList C.P ops Q r2 a' w') -> wpList C.P ops Q (l ++ r2) a w
 | [], _, st, K, a, w, h, hr, hQ => hQ st a w hr h
 | o :: r, hd, st, K, a, w, h, hr, hQ => by
  obtain ⟨β, R, S0, T, G, hN, hdef⟩ := hr
  unfold eF at h
  split at h
  ·exact h.elim
  ·rename_i g hg
   have hw := kA T hg
   have ih := λ {st : ASt} {a : Act} {w : World} => qO hS (X := X) (w0 := w0) (β0 := β0) (H0 := H0) (r2 := r2) r (λ o ho => hd o (mem_cons_of_mem _ ho)) (st := st) (K := K) (a := a) (w := w) (ops := ops) (Q := Q)
   rw [List.cons_append]
   unfold wpList
   rw [hw]
   cases g with
   | true =>
    have h := h.1 rfl
    split at h
    ·rename_i ob v H' hst
     rw [if_pos rfl]
     refine .inl (fV hS R T G hst h.1 λ u w' β' R' S hr => ih h.2 (fR S0 T G hN hdef R' S hr o.dst (hd o (by simp))) hQ)
    ·exact h.elim
   | false =>
    have h := h.2 rfl
    rw [if_neg (by simp)]
    exact ih h (fR S0 T G hN hdef R (StepR.refl _ _ _ R.len) qd o.dst (hd o (by simp))) hQ
theorem jC {ops : Array Oper} {Q : Exit -> Act -> World -> Prop} {o : Oper} {r : List Oper} {a : Act} {w w' : World} {u : Value} (hg : o.guard = none) (h : (execOp a.eval o).run C.P w = .ok (.value u) w') (hK : wpList C.P ops Q r (a.put o.dst u) w') : wpList C.P ops Q (o :: r) a w := by
 unfold wpList
 have : Region.wanted o (yielded ops a.tmps) = true := by unfold Region.wanted; rw [hg]
 rw [if_pos this]
 exact .inl (dH h hK)
theorem md {X : Nat -> Prop} {w0 : World} {β0 : List BI} {H0 : List Blk} {st : ASt} {a : Act} {w : World} (hr : Rel C N X w0 β0 H0 st a w) {d : Nat} (hd : d < N) {u : Value} {r : AV} (h : ∀ Y, RepD w Y u r) : Rel C N X w0 β0 H0 ⟨(d, r) :: st.ρ, st.H⟩ (a.put (some d) u) w := by
 obtain ⟨β, R, S0, T, G, hN, hdef⟩ := hr
 exact fR S0 T G hN hdef R (StepR.refl _ _ _ R.len) (.deep (h _)) (some d) (λ d' h => by injection h with h; subst h; exact hd)
theorem BJ {X : Nat -> Prop} {w0 : World} {β0 : List BI} {H0 : List Blk} {st : ASt} {a : Act} {w : World} {d : Nat} (hd : d < N) {u : Value} {r : AV} (h : ∃ β, HRel w X β st.H /\ StepR w0 β0 H0 w β st.H /\ i8 w (Mu X β st.H) β st.H a st.ρ /\ lL C w (Mu X β st.H) /\ a.tmps.size = N /\ a.defers = [] /\ Rep w (Mu X β st.H) β st.H u r) : Rel C N X w0 β0 H0 ⟨(d, r) :: st.ρ, st.H⟩ (a.put (some d) u) w := by
 obtain ⟨β, R, S0, T, G, hN, hdef, hu⟩ := h
 exact fR S0 T G hN hdef R (StepR.refl _ _ _ R.len) hu (some d) (λ d' h => by injection h with h; subst h; exact hd)
end
def GZ (C : Ctx) (N hl b b1 : Nat) (Q : Exit -> ASt -> Prop) (st1 : ASt) : Exit -> ASt -> Prop
 | .normal, st => Weak C N hl st st1
 | .exit j, st => if j = b1 then Weak C N hl st st1 else if j = b then Q .normal st else Q (.exit j) st
 | e, st => Q e st
section
variable {C : Ctx} {N h0 : Nat}
theorem GK {X : Nat -> Prop} {w : World} {β : List BI} {H : List Blk} (R : HRel w X β H) {r : Nat} {m : Option Nat} {s c : Nat} {seen : Array Nat} (hr : w.heap[r]? = some (.mapIter m s seen c)) : ¬ MutB β H r := by
 rintro ⟨l, cap, b, h1, h2, _⟩
 rcases R.blk l _ b h1 h2 with ⟨cur, h, _⟩ | ⟨_, _, es, clock, ents, h, _⟩ <;> (rw [hr] at h; cases h)
theorem DY {w : World} {Y : Nat -> Prop} : RepD w Y (.tuple #[.bool false]) (.tup [.bool false]) :=
 .tup _ _ (λ _ => .bool false) rfl (λ j hj => by rcases j with _ | j <;> simp at hj ⊢) (λ j v hj => by
  rcases j with _ | j
  ·simp at hj; subst hj; exact .bool _
  ·simp at hj)
theorem DX {w : World} {Y : Nat -> Prop} {k v : Value} : RepD w Y (.tuple #[.bool true, k, v]) (.tup [.bool true, .undef, .undef]) :=
 .tup _ _ (λ j => (#[Value.bool true, k, v] : Array Value).getD j undef) rfl (λ j hj => by rcases j with _ | _ | _ | j <;> simp at hj ⊢ <;> omega) (λ j u hj => by
  rcases j with _ | _ | _ | j
  ·simp at hj; subst hj; exact .bool _
  ·simp at hj; subst hj; exact .undef _
  ·simp at hj; subst hj; exact .undef _
  ·simp at hj)
theorem DZ {w : World} {Y : Nat -> Prop} {β : List BI} {H : List Blk} {k v : Value} {a b : AV} (h1 : Rep w Y β H k a) (h2 : Rep w Y β H v b) : Rep w Y β H (.tuple #[k, v]) (.tup [a, b]) :=
 .tup _ _ (λ j => (#[k, v] : Array Value).getD j undef) rfl (λ j hj => by rcases j with _ | _ | j <;> simp at hj ⊢ <;> omega) (λ j u hj => by
  rcases j with _ | _ | j
  ·simp at hj; subst hj; exact h1
  ·simp at hj; subst hj; exact h2
  ·simp at hj)
theorem BM {w : World} {X : Nat -> Prop} {β : List BI} {H : List Blk} {v : Value} {kb : Bool} {ents : List AV} (h : Rep w (Mu X β H) β H v (.mapd kb ents)) : ∃ bk es clock, v = .map (some bk) /\ bk < w.heap.size /\ ¬ Mu X β H bk /\ w.heap[bk]? = some (.map es clock) /\ EntsRep w (Mu X β H) β H kb es clock ents /\
  ∀ (i : Nat) (e : MapEntry), es[i]? = some e -> ∃ k u : AV, ents[i]? = some (.tup [k, u]) /\ KeyRep kb e.key k /\ RepD w (Mu X β H) e.val u := by
 have h := cL rfl h
 cases h with
 | mapd bk es clock _ _ hlt hX hm hst hl hmax he hk hv =>
  have key : ∀ (i : Nat) (e : MapEntry), es[i]? = some e -> ents[i]? = some (.tup [C5 ents i, C6 ents i]) := λ i e hi => he i (by have := (Array.getElem?_eq_some_iff.1 hi).1; omega)
  exact ⟨bk, es, clock, rfl, hlt, hX, hm, ⟨hl, hmax, hst, λ i e hi => ⟨_, _, key i e hi, hk i e hi, .deep (hv i e hi)⟩⟩, λ i e hi => ⟨_, _, key i e hi, hk i e hi, hv i e hi⟩⟩
theorem ye {w : World} {Y : Nat -> Prop} {kb : Bool} {v : Value} {a : AV} (h : KeyRep kb v a) : RepD w Y v a := by
 rcases h with ⟨_, n, rfl, rfl⟩ | ⟨_, s, rfl, rfl⟩
 ·exact .int _ _
 ·exact .str _
theorem rn (hS : aB C) {id nid eid b b1 : Nat} {ops nops eops : Array Oper} {pre nrest erest : List Oper} {oR oN oE : Oper} {it dN dE ok m : Nat} {t : TypeId} {BODY : Code} {st : ASt} {Q : Exit -> ASt -> Prop}
  (h1 : ops.toList = pre ++ [oR]) (r1 : oR.op = .range t (.tmp m)) (r2 : oR.dst = some it) (r3 : oR.guard = none) (ht : ∃ k e, C.P.underlying t = some (.map k e))
  (h2 : nops.toList = oN :: nrest) (n1 : oN.op = .next (.tmp it) false) (n2 : oN.dst = some dN) (n3 : oN.guard = none)
  (h3 : eops.toList = oE :: erest) (e1 : oE.op = .entry (.tmp it)) (e2 : oE.dst = some dE) (e3 : oE.guard = none)
  (hd : ((ops.toList ++ nops.toList ++ eops.toList).all λ o => match o.dst with | some d => decide (d < N) | none => true) = true)
  (Sf : Nat -> List AV -> ASt) {kb : Bool} {ents : List AV} (hit : ∀ r done, aQ (Sf r done).ρ it = .itp r)
  (start : eF C ops pre st (λ st1 => aQ st1.ρ m = .mapd kb ents /\ ∀ r, Weak C N st1.H.length ⟨(it, .itp r) :: st1.ρ, st1.H⟩ (Sf r [])))
  (fin : ∀ r done, done.Perm ents -> eF C nops nrest ⟨(dN, .tup [.bool false]) :: (Sf r done).ρ, (Sf r done).H⟩ (λ st1 => aQ st1.ρ ok = .bool false /\ Q .normal st1))
  (step : ∀ r done k v rem, (done ++ .tup [k, v] :: rem).Perm ents -> eF C nops nrest ⟨(dN, .tup [.bool true, .undef, .undef]) :: (Sf r done).ρ, (Sf r done).H⟩ (λ st1 => aQ st1.ρ ok = .bool true /\ aQ st1.ρ it = .itp r /\
   eF C eops erest ⟨(dE, .tup [k, v]) :: st1.ρ, st1.H⟩ (λ st2 => AW C N (Sf r done).H.length BODY st2 (GZ C N (Sf r done).H.length b b1 Q (Sf r (done ++ [.tup [k, v]])))))) :
  AW C N h0 (.seq (.region id ops false) (.block b (.loop (.seq (.region nid nops false) (.seq (.cond (.tmp ok) .skip (.exit b)) (.block b1 (.seq (.region eid eops false) BODY))))))) st Q := λ X w0 β0 H0 a w hh hr => by
 have hdd : ∀ o, (o ∈ ops.toList ∨ o ∈ nops.toList ∨ o ∈ eops.toList) -> ∀ d, o.dst = some d -> d < N := λ o ho d h => by
  have := all_eq_true.1 hd o (by rcases ho with h | h | h <;> simp [h])
  rw [h] at this
  simpa using this
 have hitN : it < N := hdd oR (.inl (by rw [h1]; simp)) it r2
 have hdN : dN < N := hdd oN (.inr (.inl (by rw [h2]; simp))) dN n2
 have hdE : dE < N := hdd oE (.inr (.inr (by rw [h3]; simp))) dE e2
 refine wp_seq (wp_region_list ?_)
 rw [h1]
 refine qO hS pre (λ o ho => hdd o (.inl (by rw [h1]; simp [ho]))) start hr λ st1 a1 w1 hr1 hq => ?_
 obtain ⟨hm, hst⟩ := hq
 obtain ⟨β1, R1, S1, T1, G1, hN1, hdef1⟩ := hr1
 have hmrep := T1 m
 rw [hm] at hmrep
 obtain ⟨bk, es, clock, hv, hlt, hX, hw, E, ED⟩ := BM hmrep
 have hsz : es.toList.length = ents.length := by rw [Array.length_toList]; exact E.len
 obtain ⟨k, e, hu⟩ := ht
 refine jC r3 (w' := w1.alloc (.mapIter (some bk) clock #[] clock)) (u := .pointer (some ⟨w1.heap.size, 0, none⟩)) ?_ ?_
 ·have hrun := run_range_map w1 t k e bk es clock hu hw
  have hev : a1.eval (.tmp m) = .map (some bk) := hv
  obtain ⟨d, op, ty, ps, af, g⟩ := oR
  simp only at r1
  subst r1
  simp only [execOp, Sem.run_bind, hev, hrun, Result.andThen_ok, Sem.run_pure]
 generalize hrr : w1.heap.size = r
 have hb1 : Rel C N X w1 β1 st1.H st1 a1 w1 := ⟨β1, R1, StepR.refl _ _ _ R1.len, T1, G1, hN1, hdef1⟩
 have hr2 := md (hb1.alloc (.mapIter (some bk) clock #[] clock)) hitN (u := .pointer (some ⟨r, 0, none⟩)) (r := .itp r) λ Y => .itp r
 have hr3 := hst r X w1 β1 st1.H _ _ rfl hr2
 rw [r2]
 show (Code.block b _).wp _ _ _ _
 refine wp_block (wp_loop_ghost (λ n a w => ∃ (done : List AV) (seen : Array Nat), n = (leftOf es seen).size /\ Rel C N X w1 β1 st1.H (Sf r done) a w /\ w.heap[r]? = some (.mapIter (some bk) clock seen clock) /\ (done ++ eK seen (es.toList.zip ents)).Perm ents)
  (leftOf es #[]).size ⟨[], #[], rfl, hr3, by rw [<- hrr]; exact heap_alloc_new _ _, by rw [DS hsz]; exact List.Perm.refl _⟩ ?_)
 rintro n a w ⟨done, seen, rfl, hr, hiter, hp⟩
 have hr0 := hr
 obtain ⟨β, R, S, T, G, hN, hdef⟩ := hr0
 have hbk : w.heap[bk]? = some (.map es clock) := (S.keeps.block bk hlt (λ h => hX (.inr h))).trans hw
 have hptr : a.eval (.tmp it) = .pointer (some ⟨r, 0, none⟩) := by
  have := T it
  rw [hit r done] at this
  exact Aj this
 refine wp_seq (wp_region_list ?_)
 rw [h2]
 rcases run_next_at (P := C.P) w oN.type r bk clock clock seen es clock hiter hbk E.st.1 (le_refl _) with ⟨hz, hrun⟩ | ⟨en, hen, w2, hw2, hrun⟩
 ·refine jC n3 (u := .tuple #[.bool false]) (w' := w) ?_ ?_
  ·obtain ⟨d, op, ty, ps, af, g⟩ := oN
   simp only at n1
   subst n1
   simp only [execOp, Sem.run_bind, hptr, hrun, Result.andThen_ok, Sem.run_pure]
  have hrs := md hr hdN (u := .tuple #[.bool false]) (r := .tup [.bool false]) λ Y => DY
  have hnil : eK seen (es.toList.zip ents) = [] := List.length_eq_zero_iff.1 (by rw [DR E.len]; exact hz)
  rw [hnil, List.append_nil] at hp
  rw [n2]
  refine dr hS nrest (λ o ho => hdd o (.inr (.inl (by rw [h2]; simp [ho])))) (fin r done hp) hrs λ st' a' w' hr' hq => ?_
  obtain ⟨hok, hQ⟩ := hq
  show (Code.seq _ _).wp _ _ _ _
  have hokv : a'.eval (.tmp ok) = .bool false := by
   obtain ⟨β', R', S', T', G', _⟩ := hr'
   have := T' ok
   rw [hok] at this
   exact cR this
  refine wp_seq (wp_cond_false hokv (wp_exit ?_))
  simp only [Exit.then, Exit.inBlock, if_true]
  exact ⟨st', hQ, hr'.there S1⟩
 ·obtain ⟨hin, hsn⟩ := mem_left hen
  obtain ⟨i, hi, hei⟩ := List.getElem_of_mem hin
  have hi' : es[i]? = some en := by rw [<- Array.getElem?_toList, getElem?_eq_getElem hi, hei]
  obtain ⟨kk, vv, hent, hkey, hval⟩ := ED i en hi'
  have hmz : (en, AV.tup [kk, vv]) ∈ es.toList.zip ents := mem_of_getElem? (i := i) (by rw [List.getElem?_zip_eq_some]; exact ⟨by rw [getElem?_eq_getElem hi, hei], hent⟩)
  have hrem := wR (s := seen) (p := (en, AV.tup [kk, vv])) hsn (L := es.toList.zip ents) (by rw [H3 hsz]; exact E.st.2.1) hmz
  have hp2 : (done ++ .tup [kk, vv] :: eK (seen.push en.born) (es.toList.zip ents)).Perm ents := (List.Perm.append_left done hrem).trans hp
  have hr1' : Rel C N X w1 β1 st1.H (Sf r done) a w2 := by
   rcases hw2 with rfl | rfl
   ·exact hr
   ·have hk : Keeps (λ _ => False) w w.drew := Keeps.drew _ w
    exact ⟨β, R.quiet hk, S.trans (StepR.quiet hk R.len), λ t => (T t).keep (StepR.quiet hk R.len), λ g => (G g).keep (λ b hb hn => hk.block b hb (λ h => h)) hk.size (λ b _ h => h), hN, hdef⟩
  have hiter2 : w2.heap[r]? = some (.mapIter (some bk) clock seen clock) := by rcases hw2 with rfl | rfl <;> exact hiter
  have hbk2 : w2.heap[bk]? = some (.map es clock) := by rcases hw2 with rfl | rfl <;> exact hbk
  have hr2' : Rel C N X w1 β1 st1.H (Sf r done) a (setBlock w2 r (.mapIter (some bk) clock (seen.push en.born) clock)) :=
   hr1'.odd (o := .mapIter (some bk) clock (seen.push en.born) clock) hiter2 rfl (by omega)
  generalize hw3 : setBlock w2 r (.mapIter (some bk) clock (seen.push en.born) clock) = w3 at hr2' hrun
  have hne : bk ≠ r := by omega
  have hbk3 : w3.heap[bk]? = some (.map es clock) := by rw [<- hw3]; simp only [setBlock]; rw [Array.getElem?_setIfInBounds_ne (by omega)]; exact hbk2
  have hrlt : r < w2.heap.size := (Array.getElem?_eq_some_iff.1 hiter2).1
  have hiter3 : w3.heap[r]? = some (.mapIter (some bk) clock (seen.push en.born) clock) := by rw [<- hw3]; simp only [setBlock]; rw [Array.getElem?_setIfInBounds_self_of_lt hrlt]
  have hrlt3 : r < w3.heap.size := (Array.getElem?_eq_some_iff.1 hiter3).1
  obtain ⟨β2, R2, S2, T2, G2, hN2, hdef2⟩ := hr2'
  have hb2 : Rel C N X w3 β2 (Sf r done).H (Sf r done) a w3 := ⟨β2, R2, StepR.refl _ _ _ R2.len, T2, G2, hN2, hdef2⟩
  have hnm : ¬ MutB β2 (Sf r done).H r := GK R2 hiter3
  refine jC n3 (u := .tuple #[.bool true, en.key, en.val]) (w' := w3) ?_ ?_
  ·obtain ⟨d, op, ty, ps, af, g⟩ := oN
   simp only at n1
   subst n1
   simp only [execOp, Sem.run_bind, hptr, hrun, Result.andThen_ok, Sem.run_pure]
  have hrs := md hb2 hdN (u := .tuple #[.bool true, en.key, en.val]) (r := .tup [.bool true, .undef, .undef]) λ Y => DX
  rw [n2]
  refine dr hS nrest (λ o ho => hdd o (.inr (.inl (by rw [h2]; simp [ho])))) (step r done kk vv _ hp2) hrs λ st' a' w' hr' hq => ?_
  obtain ⟨hok, hit', hrest⟩ := hq
  show (Code.seq _ _).wp _ _ _ _
  have hr'' := hr'
  obtain ⟨β', R', S', T', G', hN', hdef'⟩ := hr''
  have hokv : a'.eval (.tmp ok) = .bool true := by
   have := T' ok
   rw [hok] at this
   exact cR this
  have hptr' : a'.eval (.tmp it) = .pointer (some ⟨r, 0, none⟩) := by
   have := T' it
   rw [hit'] at this
   exact Aj this
  have hiter4 : w'.heap[r]? = some (.mapIter (some bk) clock (seen.push en.born) clock) := (S'.keeps.block r hrlt3 hnm).trans hiter3
  have S4 := S2.trans S'
  have hbk4 : w'.heap[bk]? = some (.map es clock) := (S4.keeps.block bk hlt (λ h => hX (.inr h))).trans hw
  refine wp_seq (wp_cond_true hokv (wp_skip ?_))
  show (Code.block b1 _).wp _ _ _ _
  refine wp_block (wp_seq (wp_region_list ?_))
  rw [h3]
  have hrunE := run_entry_at (P := C.P) w' r bk clock seen es clock en hiter4 hbk4 hin E.st.2.1
  refine jC e3 (u := .tuple #[en.key, en.val]) (w' := w') ?_ ?_
  ·obtain ⟨d, op, ty, ps, af, g⟩ := oE
   simp only at e1
   subst e1
   simp only [execOp, Sem.run_bind, hptr', hrunE, Result.andThen_ok, Sem.run_pure]
  have hval4 : RepD w' (Mu X β' st'.H) en.val vv := hval.keep (λ b hb hn => S4.keeps.block b hb (λ hm => hn (.inr hm))) S4.keeps.size λ b hb h => S4.mu b hb h
  have hrs4 := BJ (C := C) (N := N) (X := X) (w0 := w3) (β0 := β2) (H0 := (Sf r done).H) (st := st') (a := a') (w := w') hdE (u := .tuple #[en.key, en.val]) (r := .tup [kk, vv]) ⟨β', R', S', T', G', hN', hdef', DZ (.deep (ye hkey)) (.deep hval4)⟩
  rw [e2]
  refine dr hS erest (λ o ho => hdd o (.inr (.inr (by rw [h3]; simp [ho])))) hrest hrs4 λ st2 a2 w4 hr5 hB => ?_
  simp only [Exit.then]
  refine Code.wp_mono (λ ex a5 w5 hpost => ?_) (hB X w3 β2 (Sf r done).H a2 w4 rfl hr5)
  obtain ⟨st5, hq5, hr6⟩ := hpost
  have next : Weak C N (Sf r done).H.length st5 (Sf r (done ++ [.tup [kk, vv]])) -> ∃ n', n' < (leftOf es seen).size /\ ∃ (done : List AV) (seen : Array Nat), n' = (leftOf es seen).size /\ Rel C N X w1 β1 st1.H (Sf r done) a5 w5 /\ w5.heap[r]? = some (.mapIter (some bk) clock seen clock) /\ (done ++ eK seen (es.toList.zip ents)).Perm ents := λ hwk => by
   have h7 := hwk X w3 β2 (Sf r done).H a5 w5 rfl hr6
   obtain ⟨_, _, S7, _⟩ := hr6
   exact ⟨_, left_shrinks es seen en hen, _, seen.push en.born, rfl, h7.there S2, (S7.keeps.block r hrlt3 hnm).trans hiter3, by rw [List.append_assoc]; exact hp2⟩
  cases ex with
  | normal => exact next hq5
  | exit j =>
   simp only [GZ] at hq5
   simp only [Exit.then, Exit.inBlock]
   split
   ·rename_i e; rw [if_pos e] at hq5; exact next hq5
   ·rename_i e
    rw [if_neg e] at hq5
    split
    ·rename_i e; rw [if_pos e] at hq5; exact ⟨st5, hq5, (hr6.there S2).there S1⟩
    ·rename_i e; rw [if_neg e] at hq5; exact ⟨st5, hq5, (hr6.there S2).there S1⟩
  | ret => exact ⟨st5, hq5, (hr6.there S2).there S1⟩
  | goto j => exact ⟨st5, hq5, (hr6.there S2).there S1⟩
  | panic j => exact ⟨st5, hq5, (hr6.there S2).there S1⟩
  | outgrown => exact ⟨st5, hq5, (hr6.there S2).there S1⟩
end
section
variable {C : Ctx} {N h0 : Nat}
theorem B9 {ρ : List (Nat × AV)} {H : List Blk} (l : Nat) {b : Blk} (hb : H[l]? = some b) (ls : List Nat) (hls : ∀ r ∈ b.rows, ∀ c ∈ r, ∀ k ∈ bo H 6 c, k ∈ ls) (hnl : l ∉ ls) (hz : 0 < b.sz := by first | decide | omega | simp) : Weak C N h0 ⟨ρ, H⟩ ⟨ρ, (df ls 0 H).set l { b with rows := b.rows.map λ r => r.map λ c => gi (aX H 6 c), deep := true }⟩ := by
 intro X w0 β0 H0 a w hl hr
 obtain ⟨β, R, S0, Tr, G, hN, hdef⟩ := hr
 have hlt := (List.getElem?_eq_some_iff.1 hb).1
 have hlt' : l < (df ls 0 H).length := by rw [ii]; exact hlt
 generalize hb' : ({ b with rows := b.rows.map λ r => r.map λ c => gi (aX H 6 c), deep := true } : Blk) = b'
 have e1 : b'.sz = b.sz := by rw [<- hb']
 have e2 : b'.e = b.e := by rw [<- hb']
 have e3 : b'.rows = b.rows.map λ r => r.map λ c => gi (aX H 6 c) := by rw [<- hb']
 have e4 : b'.mu = b.mu := by rw [<- hb']
 have hget : ∀ k, k ≠ l -> ((df ls 0 H).set l b')[k]? = (H[k]?).map λ b => if ls.contains k then { b with mu := false } else b := λ k hk => by
  rw [getElem?_set_ne (λ h => hk h.symm), iM]
  simp
 have hself : ((df ls 0 H).set l b')[l]? = some b' := getElem?_set_self hlt'
 have hmu : ∀ k, Mu X β ((df ls 0 H).set l b') k -> XL X β H (λ l => l ∈ ls) k := by
  rintro k (h | ⟨j, c, blk, h1, h2, h3⟩)
  ·exact .inl h
  ·by_cases e : j = l
   ·subst e
    rw [hself] at h2
    injection h2 with h2
    subst h2
    exact .inr ⟨j, c, b, h1, hb, ⟨by rw [<- e4]; exact h3, hnl⟩⟩
   ·rw [hget j e] at h2
    simp only [map_eq_some_iff] at h2
    obtain ⟨b0, h4, h5⟩ := h2
    subst h5
    split at h3
    ·cases h3
    ·rename_i hc
     exact .inr ⟨j, c, b0, h1, h4, ⟨h3, by simpa using hc⟩⟩
 have S : StepR w β H w β ((df ls 0 H).set l b') := by
  refine ⟨Keeps.refl _ _, ⟨λ k b0 h => ?_, λ k bk c h => .inr ⟨c, h⟩⟩, R.len⟩
  by_cases e : k = l
  ·subst e
   rw [hb] at h
   injection h with h
   subst h
   exact ⟨b', hself, e1, e2, by rw [e3]; simp, λ _ => rfl, λ h => by rw [<- e4]; exact h⟩
  ·refine ⟨_, by rw [hget k e, h]; rfl, ?_, ?_, ?_, λ _ => rfl, ?_⟩ <;> split <;> simp
 have R' : HRel w X β ((df ls 0 H).set l b') := by
  refine ⟨by rw [R.len, List.length_set, ii], λ k bi b0 h1 h2 => ?_, R.lt, R.inj, R.base⟩
  by_cases e : k = l
  ·subst e
   rw [hself] at h2
   injection h2 with h2
   subst h2
   have hB := R.blk k bi b h1 hb
   cases bi with
   | nil => exact ⟨by rw [e3, hB.1]; rfl, by rw [e1]; exact hB.2⟩
   | lies bk cap =>
    obtain ⟨cur, k1, k2, k3, k4, k5, k6, k7⟩ := hB.cells hz
    refine .inl ⟨cur, by rw [e2]; exact k1, by rw [e1]; exact k2, by rw [e3]; simpa using k3, k4, by rw [e1]; exact k5, λ r hr => ?_, λ i j r av hr hj => ?_⟩
    ·rw [e3] at hr
     obtain ⟨r0, hr0, rfl⟩ := mem_map.1 hr
     rw [e1, length_map]
     exact k6 r0 hr0
    ·rw [e3, getElem?_map, map_eq_some_iff] at hr
     obtain ⟨r0, hr0, rfl⟩ := hr
     rw [getElem?_map, map_eq_some_iff] at hj
     obtain ⟨av0, hj0, rfl⟩ := hj
     obtain ⟨v, q1, q2, q3, q4⟩ := k7 i j r0 av0 hr0 hj0
     have hv := iR ((cw R (λ l => l ∈ ls) 6 q3 (hls r0 (mem_of_getElem? hr0) av0 (mem_of_getElem? hj0))).mono (X' := Mu X β ((df ls 0 H).set k b')) λ b _ hb => hmu b hb)
     exact ⟨v, by rw [e1]; exact q1, q2, .deep hv, λ _ => hv⟩
  ·rw [hget k e] at h2
   simp only [map_eq_some_iff] at h2
   obtain ⟨b1, h3, h4⟩ := h2
   have hB := (R.blk k bi b1 h1 h3).keep S λ _ _ _ => rfl
   subst h4
   split
   ·cases bi with
    | nil => exact hB
    | lies bk c => exact hB
   ·exact hB
 exact ⟨β, R', S0.trans S, λ k => (Tr k).keep S, λ g => (G g).keep (λ b hb hn => S.keeps.block b hb (λ hm => hn (.inr hm))) S.keeps.size (λ b hb => S.mu b hb), hN, hdef⟩
end
structure BK (σ : Type) where
 B : σ -> Blk
 un : Blk -> σ
 sz : Nat
 e : TypeId
 un_B : ∀ s, un (B s) = s
 hsz : ∀ s, (B s).sz = sz
 he : ∀ s, (B s).e = e
 hmu : ∀ s, (B s).mu = true
 hdeep : ∀ s, (B s).deep = true
 hlen : ∀ s, (B s).rows.length = 1
section
variable {σ : Type} (K : BK σ)
end
section
variable {C : Ctx} {N h0 : Nat}
end
section
variable {C : Ctx} {N h0 : Nat}
theorem eC {a b : Code} {st : ASt} {Q : Exit -> ASt -> Prop} (S : ASt) (h1 : AW C N h0 a st (λ ex st' => ex = .normal /\ Weak C N h0 st' S)) (h2 : AW C N h0 b S Q) : AW C N h0 (.seq a b) st Q :=
 oS λ X w0 β0 H0 x w hl hr => Code.wp_mono (λ ex a' w' ⟨st', ⟨he, hw⟩, hr'⟩ => by
  subst he
  exact ⟨S, h2, hw X w0 β0 H0 a' w' hl hr'⟩) (h1 X w0 β0 H0 x w hl hr)
theorem FG {α : Type} {a b : Code} {st : ASt} {Q : Exit -> ASt -> Prop} (S : α -> ASt) (pre : α -> Prop) (h1 : AW C N h0 a st (λ ex st' => ex = .normal /\ ∃ x, pre x /\ Weak C N h0 st' (S x))) (h2 : ∀ x, pre x -> AW C N h0 b (S x) Q) : AW C N h0 (.seq a b) st Q :=
 oS λ X w0 β0 H0 x w hl hr => Code.wp_mono (λ ex a' w' ⟨st', ⟨he, y, hy, hw⟩, hr'⟩ => by
  subst he
  exact ⟨S y, h2 y hy, hw X w0 β0 H0 a' w' hl hr'⟩) (h1 X w0 β0 H0 x w hl hr)
theorem KO {α β γ : Type} [Enc α] [Enc β] [Enc γ] {f : FuncId} {fn : Func} {body : Code} {rs : List ResultVar} {n : Nat} (hf : C.P.funcs[f]? = some fn) (hb : fn.body = some body) (hrs : fn.results.toList = rs) (hn : fn.ntmps = n) (hnn : 3 <= n) {pre : α -> β -> γ -> Prop} {res : α -> β -> γ -> AV}
  (h : ∀ a b c, pre a b c -> AW C n 0 body ⟨[(0, Enc.enc a), (1, Enc.enc b), (2, Enc.enc c)], []⟩ (fY C rs (res a b c))) : PureOK C.P C.G f (eV pre res) :=
 dZ hf hb hrs hn λ avs ob r' hp hob => by
  unfold eV at hp
  split at hp
  ·injection hp with hp; injection hp with e1 e2; subst e1 e2
   refine ⟨hnn, ?_⟩
   have := h _ _ _ hob.2.2.2
   rw [<- hob.1, <- hob.2.1, <- hob.2.2.1] at this
   exact this
  ·cases hp
end
open Go.RowKit Go.Shelf Go.Sort
def xX (rows : List (List AV)) : List Int := rows.map Enc.unc
@[simp] theorem NJ (l : List Int) : xX (aq l) = l := by
 unfold xX aq
 simp only [map_map, Function.comp_def, Enc.unc_cells, map_id']
def sortI (l : List Int) : List Int := l.mergeSort λ x y => decide (x <= y)
def nj : List AV -> List Blk -> Option (Prop × AV × List Blk)
 | [.own l n], H =>
  match H[l]? with
  | some b => if b.mu = true /\ b.deep = true /\ b.sz = 1 then
    some (b.rows.length = n /\ b.rows = aq (xX b.rows) /\ n < 4611686018427387904, .tup [], H.set l { b with rows := aq (sortI (xX b.rows)) })
   else none
  | none => none
 | _, _ => none
theorem iY (l : List Int) : (sortI l).length = l.length := by unfold sortI; rw [List.length_mergeSort]
theorem Bk {P : Program} {G : Nat -> AV} {ρ : Ren} (L : SlLaysM.n5 P ρ) {f : FuncId} (hf : ρ.f 5 = f) : bg P G f nj := by
 subst hf
 intro w X β H args avs ob r H' R hG hsz harg hg hob
 unfold nj at hg
 split at hg
 case h_2 => cases hg
 rename_i l n
 split at hg
 case h_2 => cases hg
 rename_i b hb
 split at hg
 case isFalse => cases hg
 rename_i hbb
 obtain ⟨hmu, hdeep, hz⟩ := hbb
 injection hg with hg; injection hg with e1 e2; injection e2 with e2 e3; subst e1 e2 e3
 obtain ⟨hn, hrows, hbig⟩ := hob
 obtain ⟨v0, ha0, h0⟩ := harg 0 (.own l n) rfl
 obtain ⟨a, cap, b', rfl, hb', hn', h00, hx⟩ := fj h0
 rw [hb] at hb'
 injection hb' with hb'
 subst hb'
 have hargs : args = #[.slice a n cap] := by
  apply Array.ext_getElem?
  intro i
  match i with
  | 0 => rw [ha0]; rfl
  | i + 1 =>
   rw [Array.getElem?_eq_none, Array.getElem?_eq_none]
   ·simp
   ·rw [hsz]; simp
 subst hargs
 generalize hxs : xX b.rows = xs at hrows ⊢
 have hxl : xs.length = n := by rw [<- hn, hrows]; simp
 rcases Nat.eq_zero_or_pos n with rfl | hpos
 ·have hnil : xs = [] := List.length_eq_zero_iff.1 hxl
  refine (Go.Proofs.AnyM.slices_Sort_int_none { L with } a cap w).mono ?_
  rintro e w' ⟨rfl, rfl⟩
  have hse : H.set l { b with rows := aq (sortI xs) } = H := by
   have : ({ b with rows := aq (sortI xs) } : Blk) = b := by
    have h3 : b.rows = [] := by rw [hrows, hnil]; rfl
    rw [hnil]
    unfold sortI
    rw [List.mergeSort_nil]
    cases b
    simp only at h3
    subst h3
    rfl
   rw [this]
   exact qr hb
  rw [hse]
  exact ⟨_, β, rfl, R, StepR.refl _ _ _ R.len, .tup #[] [] (λ _ => undef) rfl (λ j hj => absurd hj (Nat.not_lt_zero j)) (λ j v hj => by simp at hj)⟩
 have hx := hx hn
 cases hβ : β[l]? with
 | none => rw [hβ] at hx; exact hx.elim
 | some bi =>
  rw [hβ] at hx
  cases bi with
  | nil => exact absurd hx.1 (by omega)
  | lies bk c =>
   obtain ⟨rfl, rfl⟩ := hx
   obtain ⟨cur, k1, k2, k3, k4, k5, k6, k7⟩ := (R.blk l _ b hβ hb).cells (by omega)
   rw [hz] at k2 k5 k6
   have hbkM : Mu X β H bk := .inr ⟨l, _, b, hβ, hb, hmu⟩
   have hbklt : bk < w.heap.size := (R.lt l bk _ hβ).1
   have hcell : ∀ i (hi : i < xs.length), cur[i]? = some (.int .i64 xs[i]) := by
    intro i hi
    have hri : b.rows[i]? = some [.int .i64 xs[i]] := by
     rw [hrows]
     unfold aq
     rw [getElem?_map, getElem?_eq_getElem hi]
     rfl
    obtain ⟨v, q1, q2, q3, q4⟩ := k7 i 0 _ _ hri rfl
    rw [hz, Nat.mul_one, add_zero] at q1
    have q5 := q4 hdeep
    cases q5
    exact q1
   have hH : Holds (Value.int .i64) w bk 0 xs.toArray := by
    intro j hj
    have hj' : j < xs.length := by simpa using hj
    rw [zero_add, cell_of_row w bk j cur b.e (0, 0) k1, hcell j hj', getElem!_pos xs.toArray j hj]
    refine ⟨by simp, ?_⟩
    unfold World.frozen?
    rw [k1]
    simp
   have hW : ∀ (m : Nat) (dk : Array Int) (os : Array Obj), (∀ k, k < w.heap.size -> k ≠ bk -> (sortWorld (Value.int .i64) w bk 0 m dk os).heap[k]? = w.heap[k]?) /\ w.heap.size <= (sortWorld (Value.int .i64) w bk 0 m dk os).heap.size := by
    intro m dk os
    refine ⟨λ k hk hne => ?_, ?_⟩
    ·show ((w.heap.modify bk _) ++ os)[k]? = _
     rw [Array.getElem?_append_left (by simpa using hk), Array.getElem?_modify, if_neg (λ h => hne h.symm)]
    ·show _ <= ((w.heap.modify bk _) ++ os).size
     simp
   have := Go.Proofs.AnyM.slices_Sort_int L bk 0 cap xs w hH hbklt (by omega)
   rw [hxl] at this
   refine this.mono ?_
   rintro e w' ⟨rfl, nn, os, rfl⟩
   obtain ⟨d', hd'⟩ : ∃ d' : Array Int, d' = (sortI xs).toArray := ⟨_, rfl⟩
   have hww : grow (putRow (Value.int .i64) (Sort.ahead w nn) bk 0 (xs.mergeSort λ x y => decide (x <= y)).toArray) os = sortWorld (Value.int .i64) w bk 0 nn d' os := by rw [hd']; rfl
   rw [hww]
   obtain ⟨hW1, hW2⟩ := hW nn d' os
   have hbi : β[l]? = some (BI.lies bk cap) := hβ
   have hlen2 : (aq (sortI xs)).length = n := by rw [jV, iY]; exact hxl
   have hK : Keeps (MutB β H) w (sortWorld (Value.int .i64) w bk 0 nn d' os) :=
    ⟨rfl, rfl, rfl, hW2, λ k hk hnm => hW1 k hk λ e => hnm (e ▸ ⟨l, cap, b, hβ, hb, hmu⟩), Drawn.of_le (Nat.le_add_right _ _)⟩
   have S := d4 R hb hbi (.lies bk cap) { b with rows := aq (sortI xs) } rfl rfl (by rw [hlen2, hn]; exact le_refl _) (λ _ => rfl) id (λ bk' c' e => .inr ⟨c', e⟩) hK
   have R' := d3 R hb hbi (.lies bk cap) { b with rows := aq (sortI xs) } S (λ l' bk' c' hne h => hW1 bk' (R.lt l' bk' c' h).1 λ e => hne (R.inj l' l bk' c' cap h (e ▸ hβ))) (by
    refine .inl ⟨putCells (Value.int .i64) 0 d' cur, ?_, ?_, by rw [hlen2]; omega, k4, by rw [hz]; exact Nat.one_pos, λ r hr => ?_, λ i j r av hr hj => ?_⟩
    ·show ((w.heap.modify bk _) ++ os)[bk]? = _
     rw [Array.getElem?_append_left (by simpa using hbklt), Array.getElem?_modify, if_pos rfl, k1]
     rfl
    ·simp only [putCells, Array.size_mapIdx]
     rw [k2, hz]
    ·unfold aq at hr
     obtain ⟨x, _, rfl⟩ := mem_map.1 hr
     rw [hz]
     rfl
    ·unfold aq at hr
     rw [getElem?_map, map_eq_some_iff] at hr
     obtain ⟨x, hx', rfl⟩ := hr
     have hi : i < (sortI xs).length := (List.getElem?_eq_some_iff.1 hx').1
     have hxe : x = (sortI xs)[i] := ((List.getElem?_eq_some_iff.1 hx').2).symm
     have hi2 : i < xs.length := by rw [<- iY]; exact hi
     match j with
     | j + 1 => simp at hj
     | 0 =>
      have hj : some (AV.int .i64 x) = some av := hj
      injection hj with hj
      subst hj
      refine ⟨.int .i64 x, ?_, rfl, .deep (.int .i64 x), λ _ => .int .i64 x⟩
      rw [hz, Nat.mul_one, add_zero]
      have hci : i < cur.size := by omega
      have hds : d'.size = (sortI xs).length := by rw [hd']; simp
      simp only [putCells, Array.getElem?_mapIdx, Array.getElem?_eq_getElem hci, map_some, zero_le, true_and, zero_add, Nat.sub_zero]
      rw [if_pos (by omega), getElem!_pos d' i (by omega)]
      simp only [hd', hxe]
      simp)
    (λ bk' c' e => by injection e with e1 e2; subst e1; exact ⟨Nat.lt_of_lt_of_le hbklt hW2, (R.lt l bk _ hβ).2⟩) (λ bk' c' l' c'' e hne h => by injection e with e1 e2; subst e1; exact hne (R.inj l' l _ c'' cap h hβ))
   exact ⟨_, _, rfl, R', S, .tup #[] [] (λ _ => undef) rfl (λ j hj => absurd hj (Nat.not_lt_zero j)) (λ j v hj => by simp at hj)⟩
attribute [simp] aev gav ry rX zN DB DC uT Ng FP cav mX dI xG oV lO rt ru aun oZ lj eD eE lk lq pc jI iy gX fP splice tA xJ pm AT AU nr j7 ja ce bD fC lu pf gw oY pi fU bR eY FV sH aN aW eV xf jg tw
set_option maxRecDepth 100000
open Tryz in
@[simp] theorem XE : szT prog 3 = 1 /\ cj prog 3 = some false /\ elT prog 3 = none /\ mU prog 3 = some .i64 /\ byT prog 3 = 8 /\ Dr prog 3 = some true /\ zT prog 3 = some [.int .i64 0] /\ szT prog 4 = 1 /\ cj prog 4 = some false /\ pt prog 4 = true /\ zV prog 4 = some (.bool false) /\ elT prog 5 = none /\ mU prog 5 = some .u8 /\ szT prog 9 = 1 /\ cj prog 9 = some false /\ elT prog 9 = none /\ lI prog 9 = true /\ byT prog 9 = 16 /\ Dr prog 9 = some false /\ zT prog 9 = some [.str ByteArray.empty] /\ szT prog 22 = 1 /\ cj prog 22 = some false /\ elT prog 22 = some 48 /\ cZ prog 22 = none /\ szT prog 23 = 1 /\ cj prog 23 = some false /\ elT prog 23 = some 51 /\ cZ prog 23 = none /\ szT prog 25 = 4 /\ cj prog 25 = some true /\ bz prog 25 0 = some (0, 22) /\ bz prog 25 1 = some (1, 23) /\ bz prog 25 2 = some (2, 3) /\ bz prog 25 3 = some (3, 3) /\ szT prog 27 = 1 /\ cj prog 27 = some false /\ zT prog 27 = some [.int .i64 0] /\ szT prog 30 = 1 /\ cj prog 30 = some false /\ elT prog 30 = some 69 /\ cZ prog 30 = none /\ szT prog 32 = 1 /\ cj prog 32 = some true /\ bz prog 32 0 = some (0, 30) /\ zT prog 32 = some [.slice 21 true []] /\ szT prog 35 = 1 /\ cj prog 35 = some false /\ elT prog 35 = some 9 /\ cZ prog 35 = none /\ szT prog 36 = 1 := by
 repeat' apply And.intro
 all_goals kernel_rfl
open Tryz in
@[simp] theorem WZ : cj prog 36 = some false /\ elT prog 36 = some 79 /\ cZ prog 36 = none /\ szT prog 38 = 2 /\ cj prog 38 = some true /\ cZ prog 38 = none /\ bz prog 38 0 = some (0, 35) /\ bz prog 38 1 = some (1, 36) /\ dA prog 38 = true /\ zT prog 38 = some [.slice 1 true [], .slice 1 true []] /\ elT prog 41 = some 44 /\ cZ prog 41 = none /\ szT prog 44 = 2 /\ cj prog 44 = some true /\ elT prog 44 = none /\ cZ prog 44 = none /\ byT prog 44 = 16 /\ bz prog 44 0 = some (0, 3) /\ bz prog 44 1 = some (1, 3) /\ dA prog 44 = true /\ zT prog 44 = some [.int .i64 0, .int .i64 0] /\ szT prog 46 = 1 /\ cj prog 46 = some false /\ elT prog 46 = some 88 /\ cZ prog 46 = none /\ szT prog 48 = 3 /\ cj prog 48 = some true /\ cZ prog 48 = none /\ bz prog 48 0 = some (0, 3) /\ bz prog 48 1 = some (1, 35) /\ bz prog 48 2 = some (2, 46) /\ dA prog 48 = true /\ zT prog 48 = some [.int .i64 0, .slice 1 true [], .slice 6 true []] /\ szT prog 51 = 5 /\ cj prog 51 = some true /\ bz prog 51 0 = some (0, 3) /\ bz prog 51 1 = some (1, 3) /\ bz prog 51 2 = some (2, 3) /\ bz prog 51 3 = some (3, 9) /\ bz prog 51 4 = some (4, 46) /\ zT prog 51 = some [.int .i64 0, .int .i64 0, .int .i64 0, .str ByteArray.empty, .slice 6 true []] /\ szT prog 58 = 1 /\ cj prog 58 = some false /\ elT prog 58 = some 112 /\ cZ prog 58 = none /\ szT prog 59 = 1 /\ cj prog 59 = some false /\ elT prog 59 = some 64 /\ cZ prog 59 = none /\ szT prog 60 = 1 := by
 repeat' apply And.intro
 all_goals kernel_rfl
open Tryz in
@[simp] theorem QZ : cj prog 60 = some false /\ elT prog 60 = some 62 /\ cZ prog 60 = none /\ zT prog 60 = some [.slice 5 true []] /\ szT prog 62 = 5 /\ cj prog 62 = some true /\ elT prog 62 = none /\ cZ prog 62 = none /\ byT prog 62 = 64 /\ bz prog 62 0 = some (0, 3) /\ bz prog 62 1 = some (1, 3) /\ bz prog 62 2 = some (2, 3) /\ bz prog 62 3 = some (3, 9) /\ bz prog 62 4 = some (4, 60) /\ dA prog 62 = true /\ zV prog 62 = some (.agg [.int .i64 0, .int .i64 0, .int .i64 0, .str ByteArray.empty, .slice 5 true []]) /\ zT prog 62 = some [.int .i64 0, .int .i64 0, .int .i64 0, .str ByteArray.empty, .slice 5 true []] /\ szT prog 64 = 9 /\ cj prog 64 = some true /\ bz prog 64 0 = some (0, 3) /\ bz prog 64 2 = some (6, 9) /\ bz prog 64 4 = some (8, 59) /\ zT prog 64 = some [.int .i64 0, .int .i64 0, .int .i64 0, .int .i64 0, .str ByteArray.empty, .slice 5 true [], .str ByteArray.empty, .bool false, .slice 9 true []] /\ szT prog 65 = 1 /\ cj prog 65 = some false /\ elT prog 65 = some 165 /\ cZ prog 65 = none /\ szT prog 66 = 1 /\ cj prog 66 = some false /\ elT prog 66 = some 169 /\ szT prog 69 = 21 /\ cj prog 69 = some true /\ bz prog 69 0 = some (0, 3) /\ bz prog 69 1 = some (1, 4) /\ bz prog 69 2 = some (2, 4) /\ bz prog 69 3 = some (3, 58) /\ bz prog 69 4 = some (4, 59) /\ bz prog 69 7 = some (15, 65) /\ bz prog 69 8 = some (16, 66) /\ bz prog 69 9 = some (17, 3) /\ bz prog 69 10 = some (18, 3) /\ zT prog 69 = some [.int .i64 0, .bool false, .bool false, .slice 3 true [], .slice 9 true [], .int .i64 0, .int .i64 0, .int .i64 0, .int .i64 0, .str ByteArray.empty, .slice 5 true [], .str ByteArray.empty, .bool false, .slice 9 true [], .str ByteArray.empty, .slice 10 true [], .slice 10 true [], .int .i64 0, .int .i64 0, .slice 13 true [], .slice 1 true []] /\ bz prog 72 0 = some (0, 3) /\ szT prog 79 = 1 /\ cj prog 79 = some false /\ elT prog 79 = some 62 /\ cZ prog 79 = none /\ byT prog 79 = 24 /\ zT prog 79 = some [.slice 5 true []] /\ tO prog 81 = some (3, 83) := by
 repeat' apply And.intro
 all_goals kernel_rfl
open Tryz in
@[simp] theorem Q0 : tO prog 83 = some (3, 4) /\ zV prog 83 = some .undef /\ elT prog 84 = some 3 /\ cZ prog 84 = none /\ szT prog 88 = 6 /\ cj prog 88 = some true /\ elT prog 88 = none /\ byT prog 88 = 80 /\ bz prog 88 0 = some (0, 9) /\ bz prog 88 1 = some (1, 62) /\ zT prog 88 = some [.str ByteArray.empty, .int .i64 0, .int .i64 0, .int .i64 0, .str ByteArray.empty, .slice 5 true []] /\ szT prog 99 = 1 /\ cj prog 99 = some false /\ szT prog 106 = 1 /\ cj prog 106 = some true /\ cZ prog 106 = none /\ bz prog 106 0 = some (0, 99) /\ dA prog 106 = true /\ zT prog 106 = some [.slice 5 true []] /\ szT prog 109 = 1 /\ cj prog 109 = some false /\ elT prog 109 = some 156 /\ cZ prog 109 = none /\ szT prog 110 = 1 /\ cj prog 110 = some false /\ elT prog 110 = some 159 /\ cZ prog 110 = none /\ szT prog 112 = 3 /\ cj prog 112 = some true /\ bz prog 112 0 = some (0, 9) /\ bz prog 112 1 = some (1, 109) /\ bz prog 112 2 = some (2, 110) /\ zT prog 112 = some [.str ByteArray.empty, .slice 3 true [], .slice 7 true []] /\ szT prog 129 = 2 /\ szT prog 154 = 1 /\ cj prog 154 = some false /\ elT prog 154 = some 228 /\ szT prog 156 = 3 /\ cj prog 156 = some true /\ bz prog 156 0 = some (0, 9) /\ bz prog 156 1 = some (1, 35) /\ bz prog 156 2 = some (2, 154) /\ zT prog 156 = some [.str ByteArray.empty, .slice 1 true [], .slice 10 true []] /\ szT prog 159 = 7 /\ cj prog 159 = some true /\ bz prog 159 0 = some (0, 9) /\ bz prog 159 1 = some (1, 35) /\ bz prog 159 2 = some (2, 3) /\ bz prog 159 3 = some (3, 3) /\ bz prog 159 6 = some (6, 154) := by
 repeat' apply And.intro
 all_goals kernel_rfl
open Tryz in
@[simp] theorem Q1 : zT prog 159 = some [.str ByteArray.empty, .slice 1 true [], .int .i64 0, .int .i64 0, .int .i64 0, .int .i64 0, .slice 10 true []] /\ szT prog 165 = 10 /\ cj prog 165 = some true /\ bz prog 165 0 = some (0, 64) /\ bz prog 165 1 = some (9, 9) /\ zT prog 165 = some [.int .i64 0, .int .i64 0, .int .i64 0, .int .i64 0, .str ByteArray.empty, .slice 5 true [], .str ByteArray.empty, .bool false, .slice 9 true [], .str ByteArray.empty] /\ elT prog 178 = some 129 /\ szT prog 193 = 1 /\ cj prog 193 = some false /\ elT prog 193 = some 244 /\ cZ prog 193 = none /\ elT prog 207 = none /\ mU prog 207 = some .u64 /\ szT prog 238 = 1 /\ cj prog 238 = some false /\ tO prog 239 = some (9, 62) /\ szT prog 239 = 1 /\ cj prog 239 = some false /\ szT prog 240 = 1 /\ cj prog 240 = some false /\ elT prog 240 = some 248 /\ cZ prog 240 = none /\ szT prog 242 = 9 /\ cj prog 242 = some true /\ cZ prog 242 = none /\ bz prog 242 0 = some (0, 25) /\ bz prog 242 1 = some (4, 193) /\ bz prog 242 2 = some (5, 240) /\ bz prog 242 3 = some (6, 35) /\ bz prog 242 4 = some (7, 239) /\ bz prog 242 5 = some (8, 36) /\ dA prog 242 = true /\ zT prog 242 = some [.slice 3 true [], .slice 5 true [], .int .i64 0, .int .i64 0, .slice 6 true [], .slice 5 true [], .slice 1 true [], .undef, .slice 1 true []] /\ szT prog 244 = 6 /\ cj prog 244 = some true /\ elT prog 244 = none /\ cZ prog 244 = none /\ byT prog 244 = 80 /\ bz prog 244 0 = some (0, 9) /\ bz prog 244 1 = some (1, 62) /\ dA prog 244 = true /\ zT prog 244 = some [.str ByteArray.empty, .int .i64 0, .int .i64 0, .int .i64 0, .str ByteArray.empty, .slice 5 true []] /\ szT prog 246 = 1 /\ cj prog 246 = some false /\ elT prog 246 = some 249 /\ cZ prog 246 = none /\ szT prog 248 = 5 /\ cj prog 248 = some true /\ elT prog 248 = none /\ cZ prog 248 = none := by
 repeat' apply And.intro
 all_goals kernel_rfl
open Tryz in
@[simp] theorem Q2 : byT prog 248 = 112 /\ bz prog 248 0 = some (0, 112) /\ bz prog 248 1 = some (3, 246) /\ bz prog 248 2 = some (4, 246) /\ dA prog 248 = true /\ zT prog 248 = some [.str ByteArray.empty, .slice 3 true [], .slice 7 true [], .slice 1 true [], .slice 1 true []] /\ szT prog 249 = 1 /\ cj prog 249 = some false /\ elT prog 249 = some 315 /\ byT prog 249 = 24 /\ zT prog 249 = some [.slice 6 true []] /\ szT prog 256 = 1 /\ cj prog 256 = some false /\ szT prog 258 = 6 /\ cj prog 258 = some true /\ cZ prog 258 = none /\ bz prog 258 0 = some (0, 25) /\ bz prog 258 1 = some (4, 193) /\ bz prog 258 2 = some (5, 256) /\ dA prog 258 = true /\ zT prog 258 = some [.slice 3 true [], .slice 5 true [], .int .i64 0, .int .i64 0, .slice 6 true [], .undef] /\ elT prog 269 = some 272 /\ cZ prog 269 = none /\ szT prog 272 = 2 /\ cj prog 272 = some true /\ elT prog 272 = none /\ cZ prog 272 = none /\ byT prog 272 = 48 /\ bz prog 272 0 = some (0, 79) /\ dA prog 272 = true /\ zT prog 272 = some [.slice 5 true [], .slice 5 true []] /\ szT prog 287 = 1 /\ cj prog 287 = some false /\ elT prog 287 = none /\ mU prog 287 = some .u64 /\ szT prog 315 = 6 /\ szT prog 322 = 2 /\ cj prog 322 = some true /\ cZ prog 322 = none /\ bz prog 322 0 = some (0, 3) /\ bz prog 322 1 = some (1, 3) /\ Df prog 322 = some [.i, .i] /\ dA prog 322 = true /\ zT prog 322 = some [.int .i64 0, .int .i64 0] /\ elT prog 370 = some 373 /\ cZ prog 370 = none /\ szT prog 373 = 3 /\ cj prog 373 = some true /\ elT prog 373 = none /\ cZ prog 373 = none := by
 repeat' apply And.intro
 all_goals kernel_rfl
open Tryz in
@[simp] theorem Q3 : byT prog 373 = 24 /\ bz prog 373 0 = some (0, 3) /\ bz prog 373 1 = some (1, 3) /\ bz prog 373 2 = some (2, 3) /\ dA prog 373 = true /\ zT prog 373 = some [.int .i64 0, .int .i64 0, .int .i64 0] /\ szT prog 425 = 3 /\ cj prog 425 = some true /\ cZ prog 425 = none /\ bz prog 425 0 = some (0, 4) /\ bz prog 425 1 = some (1, 287) /\ bz prog 425 2 = some (2, 287) /\ dA prog 425 = true /\ zT prog 425 = some [.bool false, .int .u64 0, .int .u64 0] /\ elT prog 435 = some 60 /\ cZ prog 435 = none := by
 repeat' apply And.intro
 all_goals kernel_rfl
theorem mixed : prog.follows .mixedOrders = true := by kernel_rfl
open Go.Shelf
def Tryz.sortI_ren : Go.Shelf.Ren := ⟨fun | 5 => 63 | 8 => 127 | 7 => 126 | 19 => 201 | 20 => 202 | 10 => 192 | 11 => 193 | 12 => 194 | 13 => 195 | 14 => 196 | 15 => 197 | 16 => 198 | 17 => 199 | 18 => 200 | 30 => 260 | 31 => 261 | 32 => 262 | 33 => 263 | 34 => 264 | 35 => 170 | 40 => 335 | n => n, fun | 23 => 84 | 25 => 3 | 3 => 3 | 32 => 207 | 22 => 84 | 0 => 0 | 44 => 285 | 46 => 287 | 4 => 4 | 36 => 278 | 35 => 277 | 41 => 185 | 5 => 5 | 9 => 9 | 53 => 339 | 57 => 343 | 63 => 395 | 64 => 305 | n => n, fun | n => n⟩
theorem Tryz.sortI : Go.Proofs.SlLaysM.n5 prog Tryz.sortI_ren := {
  mixed := by kernel_rfl
  f5 := ⟨Tryz.f63.name, by decide, func63.trans (congrArg some (by kernel_rfl))⟩
  f7 := ⟨Tryz.f126.name, by decide, func126.trans (congrArg some (by kernel_rfl))⟩
  f8 := func127.trans (congrArg some (by kernel_rfl))
  f10 := ⟨Tryz.f192.name, by decide, func192.trans (congrArg some (by kernel_rfl))⟩
  f11 := ⟨Tryz.f193.name, by decide, func193.trans (congrArg some (by kernel_rfl))⟩
  f12 := ⟨Tryz.f194.name, by decide, func194.trans (congrArg some (by kernel_rfl))⟩
  f13 := ⟨Tryz.f195.name, by decide, func195.trans (congrArg some (by kernel_rfl))⟩
  f14 := ⟨Tryz.f196.name, by decide, func196.trans (congrArg some (by kernel_rfl))⟩
  f15 := ⟨Tryz.f197.name, by decide, func197.trans (congrArg some (by kernel_rfl))⟩
  f16 := ⟨Tryz.f198.name, by decide, func198.trans (congrArg some (by kernel_rfl))⟩
  f17 := ⟨Tryz.f199.name, by decide, func199.trans (congrArg some (by kernel_rfl))⟩
  f18 := ⟨Tryz.f200.name, by decide, func200.trans (congrArg some (by kernel_rfl))⟩
  f19 := func201.trans (congrArg some (by kernel_rfl))
  f20 := func202.trans (congrArg some (by kernel_rfl))
  f30 := ⟨Tryz.f260.name, by decide, func260.trans (congrArg some (by kernel_rfl))⟩
  f31 := func261.trans (congrArg some (by kernel_rfl))
  f32 := func262.trans (congrArg some (by kernel_rfl))
  f33 := ⟨Tryz.f263.name, by decide, func263.trans (congrArg some (by kernel_rfl))⟩
  f34 := ⟨Tryz.f264.name, by decide, func264.trans (congrArg some (by kernel_rfl))⟩
  f35 := ⟨Tryz.f170.name, by decide, func170.trans (congrArg some (by kernel_rfl))⟩
  f40 := ⟨Tryz.f335.name, by decide, func335.trans (congrArg some (by kernel_rfl))⟩
  t0 := Tryz.underlying0
  a0 := Tryz.isAgg0
  z0 := Tryz.sizeOf0
  v0 := Tryz.zeroValue0
  t3 := Tryz.underlying3
  a3 := Tryz.isAgg3
  z3 := Tryz.sizeOf3
  v3 := Tryz.zeroValue3
  t4 := Tryz.underlying4
  a4 := Tryz.isAgg4
  z4 := Tryz.sizeOf4
  v4 := Tryz.zeroValue4
  t5 := Tryz.underlying5
  a5 := Tryz.isAgg5
  z5 := Tryz.sizeOf5
  v5 := Tryz.zeroValue5
  t9 := Tryz.underlying9
  a9 := Tryz.isAgg9
  z9 := Tryz.sizeOf9
  v9 := Tryz.zeroValue9
  t22 := Tryz.underlying84
  a22 := Tryz.isAgg84
  z22 := Tryz.sizeOf84
  v22 := Tryz.zeroValue84
  t23 := Tryz.underlying84
  a23 := Tryz.isAgg84
  z23 := Tryz.sizeOf84
  v23 := Tryz.zeroValue84
  t25 := Tryz.underlying3
  a25 := Tryz.isAgg3
  z25 := Tryz.sizeOf3
  v25 := Tryz.zeroValue3
  t32 := Tryz.underlying207
  a32 := Tryz.isAgg207
  z32 := Tryz.sizeOf207
  v32 := Tryz.zeroValue207
  t35 := Tryz.underlying277
  a35 := Tryz.isAgg277
  z35 := Tryz.sizeOf277
  v35 := Tryz.zeroValue277
  t36 := Tryz.underlying278
  a36 := Tryz.isAgg278
  z36 := Tryz.sizeOf278
  v36 := Tryz.zeroValue278
  t41 := Tryz.underlying185
  a41 := Tryz.isAgg185
  z41 := Tryz.sizeOf185
  v41 := Tryz.zeroValue185
  t44 := Tryz.underlying285
  a44 := Tryz.isAgg285
  z44 := Tryz.sizeOf285
  v44 := Tryz.zeroValue285
  t46 := Tryz.underlying287
  a46 := Tryz.isAgg287
  z46 := Tryz.sizeOf287
  v46 := Tryz.zeroValue287
  t53 := Tryz.underlying339
  a53 := Tryz.isAgg339
  z53 := Tryz.sizeOf339
  v53 := Tryz.zeroValue339
  t57 := Tryz.underlying343
  a57 := Tryz.isAgg343
  z57 := Tryz.sizeOf343
  v57 := Tryz.zeroValue343
  t63 := Tryz.underlying395
  a63 := Tryz.isAgg395
  z63 := Tryz.sizeOf395
  v63 := Tryz.zeroValue395
  t64 := Tryz.underlying305
  a64 := Tryz.isAgg305
  z64 := Tryz.sizeOf305
  v64 := Tryz.zeroValue305 }
theorem ff {α : Type} [Enc α] (l : List α) : (aq l).map Enc.unc = l := by unfold aq; simp only [map_map, Function.comp_def, Enc.unc_cells, map_id']
structure Fr where
 N : Int
 D : Int
instance : Inhabited Fr := ⟨⟨0, 0⟩⟩
@[simp] theorem Fr.eta (x : Fr) : Fr.mk x.N x.D = x := rfl
def Fr.cells (x : Fr) : List AV := [.int .i64 x.N, .int .i64 x.D]
def Fr.unc (c : List AV) : Fr :=
 match c with
 | [.int _ a0, .int _ a1] => ⟨a0, a1⟩
 | _ => default
theorem Fr.unc_cells (x : Fr) : Fr.unc x.cells = x := by
 cases x
 simp only [Fr.cells, Fr.unc, ff]
instance : Enc Fr where
 sz := 2
 cells := Fr.cells
 enc x := .agg x.cells
 unc := Fr.unc
 dec v := match v with | .agg c => Fr.unc c | _ => default
 unc_cells := Fr.unc_cells
 dec_enc x := Fr.unc_cells x
@[simp] theorem RD (x : Fr) : Enc.enc x = .agg [.int .i64 x.N, .int .i64 x.D] := rfl
@[simp] theorem SY (k0 : IntKind) (a0 : Int) (k1 : IntKind) (a1 : Int) : (Enc.unc [.int k0 a0, .int k1 a1] : Fr) = ⟨a0, a1⟩ := rfl
@[simp] theorem Ry (l : List AV) : (Enc.dec (.agg l) : Fr) = Enc.unc l := rfl
structure Lin where
 A : List (List Fr)
 B : List (Fr)
 C : List (Fr)
instance : Inhabited Lin := ⟨⟨[], [], []⟩⟩
@[simp] theorem Lin.eta (x : Lin) : Lin.mk x.A x.B x.C = x := rfl
def Lin.cells (x : Lin) : List AV := [.slice 1 false (aq x.A), .slice 2 false (aq x.B), .slice 2 false (aq x.C)]
def Lin.unc (c : List AV) : Lin :=
 match c with
 | [.slice _ _ a0, .slice _ _ a1, .slice _ _ a2] => ⟨(a0.map Enc.unc), (a1.map Enc.unc), (a2.map Enc.unc)⟩
 | _ => default
theorem Lin.unc_cells (x : Lin) : Lin.unc x.cells = x := by
 cases x
 simp only [Lin.cells, Lin.unc, ff]
instance : Enc Lin where
 sz := 3
 cells := Lin.cells
 enc x := .agg x.cells
 unc := Lin.unc
 dec v := match v with | .agg c => Lin.unc c | _ => default
 unc_cells := Lin.unc_cells
 dec_enc x := Lin.unc_cells x
structure Wide where
 neg : Bool
 hi : Int
 lo : Int
instance : Inhabited Wide := ⟨⟨false, 0, 0⟩⟩
@[simp] theorem Wide.eta (x : Wide) : Wide.mk x.neg x.hi x.lo = x := rfl
def Wide.cells (x : Wide) : List AV := [.bool x.neg, .int .u64 x.hi, .int .u64 x.lo]
def Wide.unc (c : List AV) : Wide :=
 match c with
 | [.bool a0, .int _ a1, .int _ a2] => ⟨a0, a1, a2⟩
 | _ => default
theorem Wide.unc_cells (x : Wide) : Wide.unc x.cells = x := by
 cases x
 simp only [Wide.cells, Wide.unc, ff]
instance : Enc Wide where
 sz := 3
 cells := Wide.cells
 enc x := .agg x.cells
 unc := Wide.unc
 dec v := match v with | .agg c => Wide.unc c | _ => default
 unc_cells := Wide.unc_cells
 dec_enc x := Wide.unc_cells x
@[simp] theorem NP (x : Wide) : Enc.enc x = .agg [.bool x.neg, .int .u64 x.hi, .int .u64 x.lo] := rfl
@[simp] theorem O4 (a0 : Bool) (k1 : IntKind) (a1 : Int) (k2 : IntKind) (a2 : Int) : (Enc.unc [.bool a0, .int k1 a1, .int k2 a2] : Wide) = ⟨a0, a1, a2⟩ := rfl
@[simp] theorem NK (l : List AV) : (Enc.dec (.agg l) : Wide) = Enc.unc l := rfl
structure RTab where
 T : List (List Fr)
 Basic : List (Int)
 Cost : List (Fr)
 Over : Bool
instance : Inhabited RTab := ⟨⟨[], [], [], false⟩⟩
@[simp] theorem RTab.eta (x : RTab) : RTab.mk x.T x.Basic x.Cost x.Over = x := rfl
def RTab.cells (x : RTab) : List AV := [.slice 1 false (aq x.T), .slice 1 false (aq x.Basic), .slice 2 false (aq x.Cost), .bool x.Over]
def RTab.unc (c : List AV) : RTab :=
 match c with
 | [.slice _ _ a0, .slice _ _ a1, .slice _ _ a2, .bool a3] => ⟨(a0.map Enc.unc), (a1.map Enc.unc), (a2.map Enc.unc), a3⟩
 | _ => default
theorem RTab.unc_cells (x : RTab) : RTab.unc x.cells = x := by
 cases x
 simp only [RTab.cells, RTab.unc, ff]
instance : Enc RTab where
 sz := 4
 cells := RTab.cells
 enc x := .agg x.cells
 unc := RTab.unc
 dec v := match v with | .agg c => RTab.unc c | _ => default
 unc_cells := RTab.unc_cells
 dec_enc x := RTab.unc_cells x
instance : DecidableEq Fr := λ a b => match a, b with
 | ⟨n, d⟩, ⟨n', d'⟩ => if h : n = n' /\ d = d' then .isTrue (by rw [h.1, h.2]) else .isFalse (λ e => h (by injection e with e1 e2; exact ⟨e1, e2⟩))
def InR (n : Int) : Prop := -1000000000000000 <= n /\ n <= 1000000000000000
instance (n : Int) : Decidable (InR n) := inferInstanceAs (Decidable (_ /\ _))
def bM (a : Fr) : Prop := 1 <= a.D /\ a.D <= 1000000000000000 /\ InR a.N /\ Int.gcd a.N a.D = 1
instance (a : Fr) : Decidable (bM a) := inferInstanceAs (Decidable (_ /\ _ /\ _ /\ _))
def F00 : Fr := ⟨0, 0⟩
def F01 : Fr := ⟨0, 1⟩
def yx (n d : Int) : Fr × Bool := if InR n /\ InR d then (⟨n, d⟩, true) else (F00, false)
def wB (n d : Int) : Fr × Bool := yx (n.tdiv (Int.gcd n d)) (d.tdiv (Int.gcd n d))
def sS (a b : Fr) : Fr × Bool := if bM a /\ bM b then wB (a.N * b.D + b.N * a.D) (a.D * b.D) else (F00, false)
def DE (a b : Fr) : Fr × Bool := if bM a /\ bM b then wB (a.N * b.N) (a.D * b.D) else (F00, false)
def rb (a : Fr) : Fr := if bM a then a else F01
def sgn (n : Int) : Int := if n < 0 then -1 else if 0 < n then 1 else 0
def CM (a b : Fr) : Int := sgn ((rb a).N * (rb b).D - (rb b).N * (rb a).D)
theorem t8 {n d k : Int} (hk : 0 < k) (hg : Int.gcd n d = 1) : wB (n * k) (d * k) = yx n d := by
 unfold wB
 have e : Int.gcd (n * k) (d * k) = k.natAbs := by rw [Int.gcd_mul_right, hg, Nat.one_mul]
 have e2 : ((k.natAbs : Nat) : Int) = k := by omega
 rw [e, e2, Int.mul_tdiv_cancel _ (by omega), Int.mul_tdiv_cancel _ (by omega)]
theorem Bu {a b : Fr} (ha : bM a) (hb : bM b) : DE a b = yx (a.N.tdiv (Int.gcd a.N b.D) * b.N.tdiv (Int.gcd b.N a.D)) (a.D.tdiv (Int.gcd b.N a.D) * b.D.tdiv (Int.gcd a.N b.D)) := by
 obtain ⟨a1, a2, a3, a4⟩ := ha
 obtain ⟨b1, b2, b3, b4⟩ := hb
 obtain ⟨x, hx⟩ := gcd_dvd_left a.N b.D
 obtain ⟨y, hy⟩ := gcd_dvd_right a.N b.D
 obtain ⟨u, hu⟩ := gcd_dvd_left b.N a.D
 obtain ⟨v, hv⟩ := gcd_dvd_right b.N a.D
 have g1 : 0 < Int.gcd a.N b.D := Int.gcd_pos_of_ne_zero_right _ (by omega)
 have h1 : 0 < Int.gcd b.N a.D := Int.gcd_pos_of_ne_zero_right _ (by omega)
 have xy : Int.gcd x y = 1 := by
  have := gcd_mul_left (Int.gcd a.N b.D) x y
  rw [<- hx, <- hy, natAbs_natCast] at this
  exact Nat.eq_of_mul_eq_mul_left g1 (by omega)
 have uv : Int.gcd u v = 1 := by
  have := gcd_mul_left (Int.gcd b.N a.D) u v
  rw [<- hu, <- hv, natAbs_natCast] at this
  exact Nat.eq_of_mul_eq_mul_left h1 (by omega)
 generalize hgg : Int.gcd a.N b.D = g at *
 generalize hhh : Int.gcd b.N a.D = h at *
 have gp : (0 : Int) < (g : Int) := by omega
 have hp : (0 : Int) < (h : Int) := by omega
 have q1 : a.N.tdiv g = x := by rw [hx, mul_tdiv_cancel_left _ (by omega)]
 have q2 : b.D.tdiv g = y := by rw [hy, mul_tdiv_cancel_left _ (by omega)]
 have q3 : b.N.tdiv h = u := by rw [hu, mul_tdiv_cancel_left _ (by omega)]
 have q4 : a.D.tdiv h = v := by rw [hv, mul_tdiv_cancel_left _ (by omega)]
 have xv : Int.gcd x v = 1 := by
  rw [gcd_eq_one_iff] at a4 ⊢
  exact λ c c1 c2 => a4 c (by rw [hx]; exact dvd_mul_of_dvd_right c1) (by rw [hv]; exact dvd_mul_of_dvd_right c2)
 have uy : Int.gcd u y = 1 := by
  rw [gcd_eq_one_iff] at b4 ⊢
  exact λ c c1 c2 => b4 c (by rw [hu]; exact dvd_mul_of_dvd_right c1) (by rw [hy]; exact dvd_mul_of_dvd_right c2)
 have all : Int.gcd (x * u) (v * y) = 1 := by
  unfold Int.gcd at *
  rw [natAbs_mul, natAbs_mul]
  exact Nat.Coprime.mul_left (Nat.Coprime.mul_right xv xy) (Nat.Coprime.mul_right uv uy)
 unfold DE
 rw [if_pos ⟨⟨a1, a2, a3, a4⟩, ⟨b1, b2, b3, b4⟩⟩, q1, q2, q3, q4, <- t8 (k := g * h) (mul_pos gp hp) all]
 congr 1
 ·rw [hx, hu]; ac_rfl
 ·rw [hv, hy]; ac_rfl
def tF (a b : Fr) : Int := a.N * b.D.tdiv (Int.gcd a.D b.D) + b.N * a.D.tdiv (Int.gcd a.D b.D)
theorem rx {a b : Fr} (ha : bM a) (hb : bM b) : 0 < Int.gcd (tF a b) (Int.gcd a.D b.D) /\ sS a b = yx ((tF a b).tdiv (Int.gcd (tF a b) (Int.gcd a.D b.D))) (a.D.tdiv (Int.gcd a.D b.D) * b.D.tdiv (Int.gcd (tF a b) (Int.gcd a.D b.D))) := by
 obtain ⟨a1, a2, a3, a4⟩ := ha
 obtain ⟨b1, b2, b3, b4⟩ := hb
 obtain ⟨x, hx⟩ := gcd_dvd_left a.D b.D
 obtain ⟨y, hy⟩ := gcd_dvd_right a.D b.D
 have g1 : 0 < Int.gcd a.D b.D := Int.gcd_pos_of_ne_zero_right _ (by omega)
 have xy : Int.gcd x y = 1 := by
  have := gcd_mul_left (Int.gcd a.D b.D) x y
  rw [<- hx, <- hy, natAbs_natCast] at this
  exact Nat.eq_of_mul_eq_mul_left g1 (by omega)
 unfold tF
 generalize hgg : Int.gcd a.D b.D = g at *
 have gp : (0 : Int) < (g : Int) := by omega
 have q1 : a.D.tdiv g = x := by rw [hx, mul_tdiv_cancel_left _ (by omega)]
 have q2 : b.D.tdiv g = y := by rw [hy, mul_tdiv_cancel_left _ (by omega)]
 rw [q1, q2]
 generalize ht : a.N * y + b.N * x = t
 have h1 : 0 < Int.gcd t g := Int.gcd_pos_of_ne_zero_right _ (by omega)
 obtain ⟨t', ht'⟩ := gcd_dvd_left t (g : Int)
 obtain ⟨g', hg'⟩ := gcd_dvd_right t (g : Int)
 have tg : Int.gcd t' g' = 1 := by
  have := gcd_mul_left (Int.gcd t g) t' g'
  rw [<- ht', <- hg', natAbs_natCast] at this
  exact Nat.eq_of_mul_eq_mul_left h1 (by omega)
 generalize hhh : Int.gcd t g = h at *
 have hp : (0 : Int) < (h : Int) := by omega
 have q3 : t.tdiv h = t' := by rw [ht', mul_tdiv_cancel_left _ (by omega)]
 have q4 : b.D.tdiv h = g' * y := by rw [hy, hg', Int.mul_assoc, mul_tdiv_cancel_left _ (by omega)]
 refine ⟨h1, ?_⟩
 rw [q3, q4]
 have nx : Int.gcd a.N x = 1 := by
  rw [gcd_eq_one_iff] at a4 ⊢
  exact λ c c1 c2 => a4 c c1 (by rw [hx]; exact dvd_mul_of_dvd_right c2)
 have ny : Int.gcd b.N y = 1 := by
  rw [gcd_eq_one_iff] at b4 ⊢
  exact λ c c1 c2 => b4 c c1 (by rw [hy]; exact dvd_mul_of_dvd_right c2)
 have tx : Int.gcd t x = 1 := by
  have e : Int.gcd (a.N * y) x = 1 := by
   unfold Int.gcd at *
   rw [natAbs_mul]
   exact Nat.Coprime.mul_left nx (Nat.Coprime.symm xy)
  rw [<- ht, gcd_eq_one_iff] at *
  refine λ c c1 c2 => e c ?_ c2
  have : a.N * y = (a.N * y + b.N * x) - b.N * x := by omega
  rw [this]
  exact Int.dvd_sub c1 (dvd_mul_of_dvd_right c2)
 have ty : Int.gcd t y = 1 := by
  have e : Int.gcd (b.N * x) y = 1 := by
   unfold Int.gcd at *
   rw [natAbs_mul]
   exact Nat.Coprime.mul_left ny xy
  rw [<- ht, gcd_eq_one_iff] at *
  refine λ c c1 c2 => e c ?_ c2
  have : b.N * x = (a.N * y + b.N * x) - a.N * y := by omega
  rw [this]
  exact Int.dvd_sub c1 (dvd_mul_of_dvd_right c2)
 have part : ∀ z : Int, Int.gcd t z = 1 -> Int.gcd t' z = 1 := λ z hz => by
  rw [gcd_eq_one_iff] at hz ⊢
  exact λ c c1 c2 => hz c (by rw [ht']; exact dvd_mul_of_dvd_right c1) c2
 have all : Int.gcd t' (x * (g' * y)) = 1 := by
  have p1 := part x tx
  have p2 := part y ty
  unfold Int.gcd at *
  rw [natAbs_mul, natAbs_mul]
  exact Nat.Coprime.mul_right p1 (Nat.Coprime.mul_right tg p2)
 unfold sS
 rw [if_pos ⟨⟨a1, a2, a3, a4⟩, ⟨b1, b2, b3, b4⟩⟩, <- t8 (k := h * g) (mul_pos hp gp) all]
 congr 1
 ·have e1 : a.N * b.D + b.N * a.D = (a.N * y + b.N * x) * g := by rw [hx, hy, Int.add_mul]; congr 1 <;> ac_rfl
  rw [e1, ht, ht']; ac_rfl
 ·rw [hx, hy]
  rw [show x * (g' * y) * (h * g) = (h * g') * x * y * g by ac_rfl, <- hg']
  ac_rfl
theorem o7 {a b : Fr} (ha : bM a) (hb : bM b) (h : tF a b = 0) : sS a b = (F01, true) := by
 obtain ⟨h1, h2⟩ := rx ha hb
 obtain ⟨a1, a2, a3, a4⟩ := ha
 obtain ⟨b1, b2, b3, b4⟩ := hb
 have e : sS a b = wB (0 * (a.D * b.D)) (1 * (a.D * b.D)) := by
  unfold sS
  rw [if_pos ⟨⟨a1, a2, a3, a4⟩, ⟨b1, b2, b3, b4⟩⟩, Int.zero_mul, Int.one_mul]
  congr 1
  obtain ⟨x, hx⟩ := gcd_dvd_left a.D b.D
  obtain ⟨y, hy⟩ := gcd_dvd_right a.D b.D
  have g1 : 0 < Int.gcd a.D b.D := Int.gcd_pos_of_ne_zero_right _ (by omega)
  unfold tF at h
  generalize Int.gcd a.D b.D = g at *
  have q1 : a.D.tdiv g = x := by rw [hx, mul_tdiv_cancel_left _ (by omega)]
  have q2 : b.D.tdiv g = y := by rw [hy, mul_tdiv_cancel_left _ (by omega)]
  rw [q1, q2] at h
  have e1 : a.N * b.D + b.N * a.D = (a.N * y + b.N * x) * g := by rw [hx, hy, Int.add_mul]; congr 1 <;> ac_rfl
  rw [e1, h, Int.zero_mul]
 rw [e, t8 (mul_pos (by omega) (by omega)) (by decide)]
 rfl
theorem em2 (p : Prop) : (p = True) ∨ (p = False) := by
 by_cases h : p
 ·exact .inl (eq_true h)
 ·exact .inr (eq_false h)
def G0 : Nat -> AV := λ g => if g = 0 then .iptr [.int .i64 0, .int .i64 1] else if g = 1 then .own 0 0 else .undef
@[simp] theorem XD : G0 0 = .iptr [.int .i64 0, .int .i64 1] := rfl
noncomputable def CE : Ctx := mkC prog G0 []
@[simp] theorem Xh : CE.P = prog := rfl
@[simp] theorem Xg : CE.G = G0 := rfl
theorem aR : aB CE := ax _ _
def sIn : PSp := aN (λ (_ : Int) => True) (λ n => .bool (decide (InR n)))
theorem inP : PureOK prog G0 293 sIn := by
 refine ci aR mixed func293 rfl rfl rfl (by kernel_rfl) (by decide) (λ n _ => ?_)
 by_cases h1 : -1000000000000000 <= n
 ·by_cases h2 : n <= 1000000000000000
  ·simp [ac, ag, ae, am, ap, aa, au, ab, ao, ak, ah, ai, aj, h1, h2, InR]
  ·simp [ac, ag, ae, am, ap, aa, au, ab, ao, ak, ah, ai, aj, h1, h2, InR]
 ·simp [ac, ag, ae, am, ap, aa, au, ab, ao, ak, ah, ai, aj, h1, InR]
def cH (n : Int) : Int := n.natAbs
theorem oX {n : Int} (h : 0 <= n) : cH n = n := by unfold cH; omega
theorem oW {n : Int} (h : n <= 0) : cH n = -n := by unfold cH; omega
theorem FN (n : Int) : 0 <= cH n := by unfold cH; omega
theorem sM {n : Int} (h : InR n) : 0 <= cH n /\ cH n <= 1000000000000000 := by unfold InR at h; unfold cH; omega
def qh : PSp := aN (λ (n : Int) => InR n) (λ n => .int .i64 (cH n))
theorem Q5 : PureOK prog G0 399 qh := by
 refine ci aR mixed func399 rfl rfl rfl (by kernel_rfl) (by decide) (λ n h => ?_)
 unfold InR at h
 by_cases h1 : 0 <= n
 ·have e := oX h1
  have i1 : IntKind.wrap .i64 (-n) = -n := IntWalk.i64_in _ (by omega)
  have n1 : ¬ n < -n := by omega
  simp [ac, ag, ae, am, ap, aa, au, ab, ao, ak, ah, ai, aj, e, i1, n1]
 ·have e := oW (n := n) (by omega)
  have i1 : IntKind.wrap .i64 (-n) = -n := IntWalk.i64_in _ (by omega)
  have n1 : n < -n := by omega
  simp [ac, ag, ae, am, ap, aa, au, ab, ao, ak, ah, ai, aj, e, i1, n1]
noncomputable def CN : Ctx := mkC prog G0 [(293, .pure sIn), (399, .pure qh)]
@[simp] theorem Xn : CN.P = prog := rfl
@[simp] theorem Xm : CN.G = G0 := rfl
@[simp] theorem Xl : CN.S 293 = .pure sIn /\ CN.S 399 = .pure qh := ⟨rfl, rfl⟩
theorem EL : aB CN := aH (inP) func293 (aH (Q5) func399 (ax _ _))
def Bi (a b : Int) : Int := if InR a /\ InR b then Int.gcd a b else 0
theorem vW {a b : Int} (hb : 0 < b) (ha : 0 <= a) : Int.gcd b (a.tmod b) = Int.gcd a b := by
 rw [Int.tmod_eq_emod_of_nonneg ha]
 unfold Int.gcd
 rw [Int.natAbs_emod_of_nonneg ha, Nat.gcd_comm a.natAbs, Nat.gcd_rec b.natAbs a.natAbs, Nat.gcd_comm]
def js : PSp := aW (λ (_ _ : Int) => True) (λ a b => .int .i64 (Bi a b))
theorem N3 : PureOK prog G0 354 js := by
 refine db EL mixed func354 rfl rfl rfl (by kernel_rfl) (by decide) (λ a b _ => ?_)
 by_cases h1 : InR a
 case neg => simp [ac, ag, ae, am, ap, aa, au, ab, ao, ak, ah, ai, aj, sIn, h1, Bi]
 by_cases h2 : InR b
 case neg => simp [ac, ag, ae, am, ap, aa, au, ab, ao, ak, ah, ai, aj, sIn, h1, h2, Bi]
 have e : Bi a b = Int.gcd (cH a) (cH b) := by
  unfold Bi cH
  rw [if_pos ⟨h1, h2⟩]
  rfl
 rw [e]
 have a1 := sM h1
 have b1 := sM h2
 simp [ac, ag, ae, am, ap, aa, au, ab, ao, ak, ah, ai, aj, sIn, qh, h1, h2]
 refine aT EL mixed (λ q : Int × Int => ⟨[(0, .int .i64 q.1), (1, .int .i64 q.2), (4, .int .i64 0)], []⟩) (λ q => 0 <= q.1 /\ 0 <= q.2 /\ q.2 <= 1000000000000000 /\ Int.gcd q.1 q.2 = Int.gcd (cH a) (cH b)) (λ q => q.2.toNat) (by kernel_rfl) ⟨(cH a, cH b), ⟨a1.1, b1.1, b1.2, rfl⟩, ar (by simp)⟩ (λ ⟨u, v⟩ ⟨p1, p2, p3, p4⟩ => ?_)
 simp only at p1 p2 p3 p4 ⊢
 by_cases hv : v = 0
 ·subst hv
  rw [Int.gcd_zero_right] at p4
  have e2 : u = Int.gcd (cH a) (cH b) := by omega
  simp [ac, ag, ae, am, ap, aa, au, ab, ao, ak, ah, ai, aj, e2]
 ·have hv' : 0 < v := by omega
  have m1 := Int.emod_nonneg u hv
  have m2 := Int.emod_lt_of_pos u hv'
  have m3 := vW hv' p1
  rw [Int.tmod_eq_emod_of_nonneg p1] at m3
  have e3 := Int.tmod_eq_emod_of_nonneg (b := v) p1
  simp [ac, ag, ae, am, ap, aa, au, ab, ao, ak, ah, ai, aj, hv, e3]
  exact ⟨v, u % v, ⟨p2, m1, by omega, by omega⟩, by omega, ar (by simp)⟩
def lA (a b : Int) : Int × Bool := if InR a /\ InR b /\ InR (a * b) then (a * b, true) else (0, false)
theorem ws {a b : Int} (h1 : InR a) (h2 : InR b) (h3 : InR (a * b)) : lA a b = (a * b, true) := if_pos ⟨h1, h2, h3⟩
theorem tV {a b : Int} (h : ¬ (InR a /\ InR b /\ InR (a * b))) : lA a b = (0, false) := if_neg h
theorem KQ {a b : Int} (ha : InR a) (hb : InR b) (h0 : a ≠ 0) : (cH b <= (1000000000000000 : Int).tdiv (cH a)) ↔ InR (a * b) := by
 have a1 := sM ha
 have pa : 0 < cH a := by unfold cH; omega
 rw [Int.tdiv_eq_ediv_of_nonneg (by decide), Int.le_ediv_iff_mul_le pa]
 have e : cH b * cH a = cH (a * b) := by
  unfold cH
  rw [natAbs_mul, Int.natCast_mul, Int.mul_comm]
 rw [e]
 unfold cH InR
 omega
theorem GU {a : Int} (h0 : a ≠ 0) : I64 ((1000000000000000 : Int).tdiv (cH a)) := by
 have pa : 0 < cH a := by unfold cH; omega
 rw [Int.tdiv_eq_ediv_of_nonneg (by decide)]
 have h1 := Int.ediv_nonneg (a := 1000000000000000) (b := cH a) (by decide) (by omega)
 have h2 := Int.ediv_le_self (a := 1000000000000000) (cH a) (by decide)
 unfold I64
 omega
def mi : PSp := aW (λ (_ _ : Int) => True) (λ a b => .tup [.int .i64 (lA a b).1, .bool (lA a b).2])
theorem Oi : PureOK prog G0 423 mi := by
 refine db EL mixed func423 rfl rfl rfl (by kernel_rfl) (by decide) (λ a b _ => ?_)
 by_cases h1 : InR a
 case neg =>
  have e := tV (a := a) (b := b) (λ h => h1 h.1)
  simp [ac, ag, ae, am, ap, aa, au, ab, ao, ak, ah, ai, aj, sIn, h1, e]
 by_cases h2 : InR b
 case neg =>
  have e := tV (a := a) (b := b) (λ h => h2 h.2.1)
  simp [ac, ag, ae, am, ap, aa, au, ab, ao, ak, ah, ai, aj, sIn, h1, h2, e]
 by_cases h0 : a = 0
 ·have e := ws h1 h2 (by rw [h0, Int.zero_mul]; decide)
  subst h0
  rw [Int.zero_mul] at e
  have i0 : I64 (0 : Int) := by unfold I64; omega
  simp [ac, ag, ae, am, ap, aa, au, ab, ao, ak, ah, ai, aj, sIn, qh, h1, h2, e, i0]
 have i1 := GU h0
 have q := KQ h1 h2 h0
 have z : cH a ≠ 0 := by unfold cH; omega
 have z' : ¬ cH a = 0 := z
 by_cases h3 : InR (a * b)
 ·have e := ws h1 h2 h3
  have n1 : ¬ (1000000000000000 : Int).tdiv (cH a) < cH b := by have := q.2 h3; omega
  have i2 : I64 (a * b) := by unfold InR at h3; unfold I64; omega
  simp [ac, ag, ae, am, ap, aa, au, ab, ao, ak, ah, ai, aj, sIn, qh, h1, h2, h0, i1, n1, i2, e, z']
 ·have e := tV (a := a) (b := b) (λ h => h3 h.2.2)
  have n1 : (1000000000000000 : Int).tdiv (cH a) < cH b := by
   have := mt q.1 h3
   omega
  simp [ac, ag, ae, am, ap, aa, au, ab, ao, ak, ah, ai, aj, sIn, qh, h1, h2, h0, i1, n1, e, z']
def ui : PSp := aN (λ (n : Int) => InR n) (λ n => .int .u64 (cH n))
theorem OU : PureOK prog G0 428 ui := by
 refine ci aR mixed func428 rfl rfl rfl (by kernel_rfl) (by decide) (λ n h => ?_)
 unfold InR at h
 by_cases h1 : n < 0
 ·have e := oW (n := n) (by omega)
  have i1 : IntKind.wrap .u64 (-(IntKind.wrap .u64 n)) = -n := by rw [IntKind.wrap_u64, IntKind.wrap_u64]; omega
  simp [ac, ag, ae, am, ap, aa, au, ab, ao, ak, ah, ai, aj, e, i1, h1]
 ·have e := oX (n := n) (by omega)
  have i1 : IntKind.wrap .u64 n = n := by rw [IntKind.wrap_u64]; omega
  simp [ac, ag, ae, am, ap, aa, au, ab, ao, ak, ah, ai, aj, e, i1, h1]
structure Near where
 l : List (Int × List Int)
def cQ (l : List Int) : List AV := l.map λ x => .tup [.int .i64 x, .bool true]
def fg (d : List (Int × List Int)) : List AV := d.map λ p => .tup [.int .i64 p.1, .mapd true (cQ p.2)]
def N9 (x : AV) : Int := match x with | .tup [.int _ a, _] => a | _ => 0
@[simp] theorem Oa (k : IntKind) (a : Int) (v : AV) : N9 (.tup [.int k a, v]) = a := rfl
def unK (k : List AV) : List Int := k.map N9
theorem xq {d e : List AV} (h : d.Perm e) : (unK d).Perm (unK e) := h.map _
theorem xt (d : List AV) (k : IntKind) (a : Int) (v : AV) : unK (d ++ [.tup [.int k a, v]]) = unK d ++ [a] := by simp [unK]
def unN (e : List AV) : List (Int × List Int) := e.map λ x => match x with | .tup [.int _ a, .mapd _ k] => (a, unK k) | _ => (0, [])
theorem mC (l : List Int) : unK (cQ l) = l := by simp [unK, cQ, Function.comp_def]
theorem qL (d : List (Int × List Int)) : unN (fg d) = d := by
 unfold unN fg
 rw [map_map]
 conv => rhs; rw [<- List.map_id d]
 apply List.map_congr_left
 rintro ⟨a, k⟩ _
 show (a, unK (cQ k)) = (a, k)
 rw [mC]
instance : Enc Near where
 sz := 1
 cells n := [.mapd true (fg n.l)]
 enc n := .mapd true (fg n.l)
 unc c := match c with | [.mapd _ e] => ⟨unN e⟩ | _ => ⟨[]⟩
 dec v := match v with | .mapd _ e => ⟨unN e⟩ | _ => ⟨[]⟩
 unc_cells n := by simp only [qL]
 dec_enc n := by simp only [qL]
@[simp] theorem NS (n : Near) : Enc.enc n = .mapd true (fg n.l) := rfl
@[simp] theorem NO (b : Bool) (e : List AV) : (Enc.dec (.mapd b e) : Near) = ⟨unN e⟩ := rfl
attribute [simp] qL mC
def tZ (d : List (Int × List Int)) (a : Int) : Option (List Int) := (d.find? λ p => decide (p.1 = a)).map (·.2)
@[simp] theorem Bt (k : IntKind) (a : Int) : ∀ d : List (Int × List Int), ah (.int k a) (fg d) = (tZ d a).map λ l => .mapd true (cQ l)
 | [] => rfl
 | (b, l) :: d => by
  have ih := Bt k a d
  show (if (b == a) = true then some _ else ah (.int k a) (fg d)) = _
  unfold tZ at ih ⊢
  rw [List.find?_cons]
  by_cases h : b = a
  ·simp [h]
  ·simp only [h, decide_false, beq_iff_eq, if_false]
   rw [ih]
@[simp] theorem Bs (k : IntKind) (a : Int) : ∀ l : List Int, ah (.int k a) (cQ l) = if a ∈ l then some (.bool true) else none
 | [] => rfl
 | b :: l => by
  have ih := Bs k a l
  show (if (b == a) = true then some _ else ah (.int k a) (cQ l)) = _
  rw [ih]
  by_cases h : b = a
  ·simp [h]
  ·have h2 : ¬ a = b := λ e => h e.symm
   simp [h, h2]
theorem yS {l m : List Int} (h : l.Perm m) : sortI l = sortI m := by
 have p : (sortI l).Perm (sortI m) := (List.mergeSort_perm _ _).trans (h.trans (List.mergeSort_perm _ _).symm)
 have hs : ∀ k : List Int, (sortI k).Pairwise (λ a b => a <= b) := λ k =>
  (List.pairwise_mergeSort (le := λ a b : Int => decide (a <= b)) (λ a b c h1 h2 => by simp at h1 h2 ⊢; omega) (λ a b => by simp; omega) k).imp (λ {a b} h => by simpa using h)
 exact List.Perm.eq_of_pairwise (λ a b _ _ h1 h2 => by omega) (hs l) (hs m) p
def nK (n : Near) (a : Int) : List Int := (tZ n.l a).getD []
def px (n : Near) (a b : Int) : List Int := sortI ((nK n a).filter λ x => decide (x ∈ nK n b))
def xB (n : Near) (a b : Int) : Prop := (tZ n.l a).isSome = true /\ (tZ n.l b).isSome = true /\ (nK n a).length <= 1000
def Eg : PSp := eV xB (λ n a b => Enc.enc (px n a b))
theorem LK : bg prog G0 63 nj := Bk Tryz.sortI rfl
noncomputable def CCo : Ctx := mkC prog G0 [(63, .gen nj)]
@[simp] theorem Tw : CCo.P = prog := rfl
@[simp] theorem Tv : CCo.G = G0 := rfl
@[simp] theorem Tu : CCo.S 63 = .gen nj := rfl
theorem qs : aB CCo := aD (aF (LK) func63 rfl (by decide)) (ax _ _)
def bI (rows : List (List AV)) : Blk := ⟨3, 1, rows, true, true⟩
def qW (lb : List Int) (done : List AV) : List Int := (unK done).filter λ x => decide (x ∈ lb)
def cS (n : Near) (a b : Int) (r : Nat) (done : List AV) : ASt :=
 ⟨[(0, Enc.enc n), (1, .int .i64 a), (2, .int .i64 b), (7, .own 0 (qW (nK n b) done).length), (12, .itp r)], [bI (aq (qW (nK n b) done))]⟩
theorem rC (lb : List Int) (done : List AV) (x : Int) (v : AV) : qW lb (done ++ [.tup [.int .i64 x, v]]) = qW lb done ++ (if x ∈ lb then [x] else []) := by
 unfold qW
 rw [xt, List.filter_append]
 congr 1
 by_cases h : x ∈ lb <;> simp [h]
theorem zq (lb : List Int) (done : List AV) : (qW lb done).length <= done.length := by
 unfold qW
 refine Nat.le_trans (List.length_filter_le _ _) ?_
 simp [unK]
theorem Ba (l : List Int) : xX (aq l) = l := by simp [xX, aq, Function.comp_def, Enc.cells]
theorem F7 : PureOK prog G0 26 Eg := by
 refine KO (C := CCo) func26 rfl rfl rfl (by decide) (λ n a b hp => ?_)
 obtain ⟨h1, h2, h3⟩ := hp
 obtain ⟨la, ha⟩ := Option.isSome_iff_exists.1 h1
 obtain ⟨lb, hb⟩ := Option.isSome_iff_exists.1 h2
 have ea : nK n a = la := by simp [nK, ha]
 have eb : nK n b = lb := by simp [nK, hb]
 rw [ea] at h3
 refine eC ⟨[(0, Enc.enc n), (1, .int .i64 a), (2, .int .i64 b)], []⟩ (aY qs mixed _ (by kernel_rfl) ?_) ?_
 ·simp [ac, ag, ae, am, ap, aa, au, ab, ao, ak, ah, ai, aj]
  exact ar (by simp)
 refine eC ⟨[(0, Enc.enc n), (1, .int .i64 a), (2, .int .i64 b), (7, .own 0 0)], [bI []]⟩ (aY qs mixed _ (by kernel_rfl) ?_) ?_
 ·simp [ac, ag, ae, am, ap, aa, au, ab, ao, ak, ah, ai, aj]
  exact (ev 7 1 3 (by simp) (by decide)).trans (ar (by simp [bI]))
 refine FG (λ x : List Int => ⟨[(7, .own 0 x.length)], [bI (aq x)]⟩) (λ x => sortI x = px n a b /\ x.length <= 1000) ?_ λ x hx => ?_
 ·refine rn qs (pre := [_, _, _]) rfl rfl rfl rfl ⟨3, 4, by kernel_rfl⟩ rfl rfl rfl rfl rfl rfl rfl rfl (by kernel_rfl) (cS n a b) (kb := true) (ents := cQ la) (λ r done => by simp [cS, aQ]) ?_ ?_ ?_
  ·simp [ac, ag, ae, am, ap, aa, au, ab, ao, ak, ah, ai, aj, ha]
   intro r
   exact ar (by simp [cS, qW, unK, aQ, bI])
  ·intro r done hd
   have hu := xq hd
   rw [mC] at hu
   have ho : sortI (qW lb done) = px n a b := by
    unfold px
    rw [ea, eb]
    exact yS (hu.filter _)
   simp [ac, ag, ae, am, ap, aa, au, ab, ao, ak, ah, ai, aj, cS]
   refine ⟨qW lb done, ⟨ho, ?_⟩, ?_⟩
   ·have := zq lb done
    have := hd.length_eq
    simp [cQ] at this
    omega
   ·rw [eb]
    exact ar (by simp [aQ])
  ·intro r done k v rem hperm
   have hmem : AV.tup [k, v] ∈ cQ la := hperm.mem_iff.1 (by simp)
   obtain ⟨x, hx, hxe⟩ := mem_map.1 hmem
   injection hxe with hxe; injection hxe with e1 e2; injection e2 with e2 _
   subst e1 e2
   have hc := zq (nK n b) done
   have hpl := hperm.length_eq
   simp [cQ] at hpl
   simp [ac, ag, ae, am, ap, aa, au, ab, ao, ak, ah, ai, aj, cS, hb]
   refine aY qs mixed _ (by kernel_rfl) ?_
   by_cases hxb : x ∈ lb
   ·simp [ac, ag, ae, am, ap, aa, au, ab, ao, ak, ah, ai, aj, hb, hxb, bI]
    refine ⟨⟨by omega, by omega⟩, ?_⟩
    show Weak _ _ _ _ _
    simp only [cS, eb, rC, if_pos hxb, List.length_append, List.length_singleton]
    exact ar (by simp [aQ])
   ·simp [ac, ag, ae, am, ap, aa, au, ab, ao, ak, ah, ai, aj, hb, hxb, GZ]
    simp only [cS, eb, rC, if_neg hxb, List.append_nil]
    exact ar (by simp [aQ])
 ·refine aY qs mixed _ (by kernel_rfl) ?_
  simp [ac, ag, ae, am, ap, aa, au, ab, ao, ak, ah, ai, aj, nj, bI, Ba]
  exact ⟨by omega, by rw [iY, if_pos rfl, hx.1]; rfl⟩
inductive Val where
 | mk (kind n d : Int) (s : ByteArray) (l : List Val)
namespace Val
def kind : Val -> Int | mk k _ _ _ _ => k
def n : Val -> Int | mk _ n _ _ _ => n
def d : Val -> Int | mk _ _ d _ _ => d
def s : Val -> ByteArray | mk _ _ _ s _ => s
def l : Val -> List Val | mk _ _ _ _ l => l
@[simp] theorem eta (v : Val) : Val.mk v.kind v.n v.d v.s v.l = v := by cases v; rfl
@[simp] theorem PE (k n d : Int) (s : ByteArray) (l : List Val) : (mk k n d s l).kind = k := rfl
@[simp] theorem XH (k n d : Int) (s : ByteArray) (l : List Val) : (mk k n d s l).n = n := rfl
@[simp] theorem XF (k n d : Int) (s : ByteArray) (l : List Val) : (mk k n d s l).d = d := rfl
@[simp] theorem XI (k n d : Int) (s : ByteArray) (l : List Val) : (mk k n d s l).s = s := rfl
@[simp] theorem XG (k n d : Int) (s : ByteArray) (l : List Val) : (mk k n d s l).l = l := rfl
mutual
def cellsV : Val -> List AV
 | mk k n d s l => [.int .i64 k, .int .i64 n, .int .i64 d, .str s, .slice 5 false (cellsL l)]
def cellsL : List Val -> List (List AV)
 | [] => []
 | v :: r => cellsV v :: cellsL r
end
theorem cellsL_map : ∀ l, cellsL l = l.map cellsV
 | [] => rfl
 | v :: r => by rw [cellsL, cellsL_map r]; rfl
def unc (c : List AV) : Val :=
 match c with
 | [.int _ k, .int _ n, .int _ d, .str s, .slice _ _ rows] => mk k n d s (rows.attach.map λ r => unc r.1)
 | _ => mk 0 0 0 ByteArray.empty []
termination_by SizeOf.sizeOf c
decreasing_by
 have := List.sizeOf_lt_of_mem r.2
 simp
 omega
theorem unc_mk (a b c e : IntKind) (k n d : Int) (s : ByteArray) (sz : Nat) (f : Bool) (rows : List (List AV)) : unc [.int a k, .int b n, .int c d, .str s, .slice sz f rows] = mk k n d s (rows.map unc) := by
 rw [unc]
 simp
mutual
theorem unc_cells : ∀ v : Val, unc (cellsV v) = v
 | mk k n d s l => by rw [cellsV, unc_mk .i64 .i64 .i64 .i64, unc_cellsL l]
theorem unc_cellsL : ∀ l : List Val, (cellsL l).map unc = l
 | [] => rfl
 | v :: r => by rw [cellsL, map_cons, unc_cells v, unc_cellsL r]
end
end Val
instance : Inhabited Val := ⟨.mk 0 0 0 ByteArray.empty []⟩
instance : Enc Val where
 sz := 5
 cells := Val.cellsV
 enc v := .agg (Val.cellsV v)
 unc := Val.unc
 dec v := match v with | .agg c => Val.unc c | _ => default
 unc_cells := Val.unc_cells
 dec_enc v := Val.unc_cells v
@[simp] theorem SV : Enc.sz Val = 5 := rfl
@[simp] theorem fE (v : Val) : Enc.cells v = [.int .i64 v.kind, .int .i64 v.n, .int .i64 v.d, .str v.s, .slice 5 false (aq v.l)] := by
 cases v
 show Val.cellsV _ = _
 rw [Val.cellsV, Val.cellsL_map]
 rfl
@[simp] theorem PB (v : Val) : Enc.enc v = .agg [.int .i64 v.kind, .int .i64 v.n, .int .i64 v.d, .str v.s, .slice 5 false (aq v.l)] := by rw [<- fE]; rfl
@[simp] theorem PQ (a b c : IntKind) (k n d : Int) (s : ByteArray) (sz : Nat) (f : Bool) (rows : List (List AV)) : (Enc.unc [.int a k, .int b n, .int c d, .str s, .slice sz f rows] : Val) = .mk k n d s (Enc.dec (.slice sz f rows)) := Val.unc_mk a b c .i64 k n d s sz f rows
@[simp] theorem Pr (l : List AV) : (Enc.dec (.agg l) : Val) = Enc.unc l := rfl
theorem jz (v : Val) : Enc.unc [.int .i64 v.kind, .int .i64 v.n, .int .i64 v.d, .str v.s, .slice 5 false (aq v.l)] = v := by
 rw [<- fE]
 exact Enc.unc_cells v
structure Prp where
 key : ByteArray
 v : Val
instance : Inhabited Prp := ⟨⟨ByteArray.empty, default⟩⟩
@[simp] theorem Prp.eta (x : Prp) : Prp.mk x.key x.v = x := rfl
def Prp.cells (x : Prp) : List AV := [.str x.key, .int .i64 x.v.kind, .int .i64 x.v.n, .int .i64 x.v.d, .str x.v.s, .slice 5 false (aq x.v.l)]
def Prp.unc (c : List AV) : Prp :=
 match c with
 | [.str a0, a1, a2, a3, a4, a5] => ⟨a0, (Enc.unc [a1, a2, a3, a4, a5])⟩
 | _ => default
theorem Prp.unc_cells (x : Prp) : Prp.unc x.cells = x := by
 cases x
 simp only [Prp.cells, Prp.unc, ff, jz]
instance : Enc Prp where
 sz := 6
 cells := Prp.cells
 enc x := .agg x.cells
 unc := Prp.unc
 dec v := match v with | .agg c => Prp.unc c | _ => default
 unc_cells := Prp.unc_cells
 dec_enc x := Prp.unc_cells x
@[simp] theorem SR : Enc.sz Prp = 6 := rfl
@[simp] theorem rF (x : Prp) : Enc.cells x = [.str x.key, .int .i64 x.v.kind, .int .i64 x.v.n, .int .i64 x.v.d, .str x.v.s, .slice 5 false (aq x.v.l)] := rfl
structure Nod where
 id : Int
 labels : List (ByteArray)
 props : List (Prp)
instance : Inhabited Nod := ⟨⟨0, [], []⟩⟩
@[simp] theorem Nod.eta (x : Nod) : Nod.mk x.id x.labels x.props = x := rfl
def Nod.cells (x : Nod) : List AV := [.int .i64 x.id, .slice 1 false (aq x.labels), .slice 6 false (aq x.props)]
def Nod.unc (c : List AV) : Nod :=
 match c with
 | [.int _ a0, .slice _ _ a1, .slice _ _ a2] => ⟨a0, (a1.map Enc.unc), (a2.map Enc.unc)⟩
 | _ => default
theorem Nod.unc_cells (x : Nod) : Nod.unc x.cells = x := by
 cases x
 simp only [Nod.cells, Nod.unc, ff, jz]
instance : Enc Nod where
 sz := 3
 cells := Nod.cells
 enc x := .agg x.cells
 unc := Nod.unc
 dec v := match v with | .agg c => Nod.unc c | _ => default
 unc_cells := Nod.unc_cells
 dec_enc x := Nod.unc_cells x
@[simp] theorem SQ : Enc.sz Nod = 3 := rfl
@[simp] theorem Ms (x : Nod) : Enc.cells x = [.int .i64 x.id, .slice 1 false (aq x.labels), .slice 6 false (aq x.props)] := rfl
@[simp] theorem Pu (x : Nod) : Enc.enc x = .agg [.int .i64 x.id, .slice 1 false (aq x.labels), .slice 6 false (aq x.props)] := rfl
@[simp] theorem PN (k0 : IntKind) (a0 : Int) (s1 : Nat) (f1 : Bool) (a1 : List (List AV)) (s2 : Nat) (f2 : Bool) (a2 : List (List AV)) : (Enc.unc [.int k0 a0, .slice s1 f1 a1, .slice s2 f2 a2] : Nod) = ⟨a0, (Enc.dec (.slice s1 f1 a1)), (Enc.dec (.slice s2 f2 a2))⟩ := rfl
@[simp] theorem Pl (l : List AV) : (Enc.dec (.agg l) : Nod) = Enc.unc l := rfl
structure Edg where
 id : Int
 frm : Int
 to : Int
 type : ByteArray
 props : List (Prp)
instance : Inhabited Edg := ⟨⟨0, 0, 0, ByteArray.empty, []⟩⟩
@[simp] theorem Edg.eta (x : Edg) : Edg.mk x.id x.frm x.to x.type x.props = x := rfl
def Edg.cells (x : Edg) : List AV := [.int .i64 x.id, .int .i64 x.frm, .int .i64 x.to, .str x.type, .slice 6 false (aq x.props)]
def Edg.unc (c : List AV) : Edg :=
 match c with
 | [.int _ a0, .int _ a1, .int _ a2, .str a3, .slice _ _ a4] => ⟨a0, a1, a2, a3, (a4.map Enc.unc)⟩
 | _ => default
theorem Edg.unc_cells (x : Edg) : Edg.unc x.cells = x := by
 cases x
 simp only [Edg.cells, Edg.unc, ff, jz]
instance : Enc Edg where
 sz := 5
 cells := Edg.cells
 enc x := .agg x.cells
 unc := Edg.unc
 dec v := match v with | .agg c => Edg.unc c | _ => default
 unc_cells := Edg.unc_cells
 dec_enc x := Edg.unc_cells x
@[simp] theorem SP : Enc.sz Edg = 5 := rfl
@[simp] theorem Mr (x : Edg) : Enc.cells x = [.int .i64 x.id, .int .i64 x.frm, .int .i64 x.to, .str x.type, .slice 6 false (aq x.props)] := rfl
@[simp] theorem Ps (x : Edg) : Enc.enc x = .agg [.int .i64 x.id, .int .i64 x.frm, .int .i64 x.to, .str x.type, .slice 6 false (aq x.props)] := rfl
@[simp] theorem PL (k0 : IntKind) (a0 : Int) (k1 : IntKind) (a1 : Int) (k2 : IntKind) (a2 : Int) (a3 : ByteArray) (s4 : Nat) (f4 : Bool) (a4 : List (List AV)) : (Enc.unc [.int k0 a0, .int k1 a1, .int k2 a2, .str a3, .slice s4 f4 a4] : Edg) = ⟨a0, a1, a2, a3, (Enc.dec (.slice s4 f4 a4))⟩ := rfl
@[simp] theorem Pj (l : List AV) : (Enc.dec (.agg l) : Edg) = Enc.unc l := rfl
structure Gra where
 nodes : List (Nod)
 edges : List (Edg)
 nn : Int
 ne : Int
instance : Inhabited Gra := ⟨⟨[], [], 0, 0⟩⟩
@[simp] theorem Gra.eta (x : Gra) : Gra.mk x.nodes x.edges x.nn x.ne = x := rfl
def Gra.cells (x : Gra) : List AV := [.slice 3 false (aq x.nodes), .slice 5 false (aq x.edges), .int .i64 x.nn, .int .i64 x.ne]
def Gra.unc (c : List AV) : Gra :=
 match c with
 | [.slice _ _ a0, .slice _ _ a1, .int _ a2, .int _ a3] => ⟨(a0.map Enc.unc), (a1.map Enc.unc), a2, a3⟩
 | _ => default
theorem Gra.unc_cells (x : Gra) : Gra.unc x.cells = x := by
 cases x
 simp only [Gra.cells, Gra.unc, ff, jz]
instance : Enc Gra where
 sz := 4
 cells := Gra.cells
 enc x := .agg x.cells
 unc := Gra.unc
 dec v := match v with | .agg c => Gra.unc c | _ => default
 unc_cells := Gra.unc_cells
 dec_enc x := Gra.unc_cells x
@[simp] theorem Pt (x : Gra) : Enc.enc x = .agg [.slice 3 false (aq x.nodes), .slice 5 false (aq x.edges), .int .i64 x.nn, .int .i64 x.ne] := rfl
@[simp] theorem PM (s0 : Nat) (f0 : Bool) (a0 : List (List AV)) (s1 : Nat) (f1 : Bool) (a1 : List (List AV)) (k2 : IntKind) (a2 : Int) (k3 : IntKind) (a3 : Int) : (Enc.unc [.slice s0 f0 a0, .slice s1 f1 a1, .int k2 a2, .int k3 a3] : Gra) = ⟨(Enc.dec (.slice s0 f0 a0)), (Enc.dec (.slice s1 f1 a1)), a2, a3⟩ := rfl
@[simp] theorem Pk (l : List AV) : (Enc.dec (.agg l) : Gra) = Enc.unc l := rfl
structure Atm where
 kind : Int
 vars : List (Int)
 name : ByteArray
 types : List (ByteArray)
 v : Val
instance : Inhabited Atm := ⟨⟨0, [], ByteArray.empty, [], default⟩⟩
@[simp] theorem Atm.eta (x : Atm) : Atm.mk x.kind x.vars x.name x.types x.v = x := rfl
def Atm.cells (x : Atm) : List AV := [.int .i64 x.kind, .slice 1 false (aq x.vars), .str x.name, .slice 1 false (aq x.types), .int .i64 x.v.kind, .int .i64 x.v.n, .int .i64 x.v.d, .str x.v.s, .slice 5 false (aq x.v.l)]
def Atm.unc (c : List AV) : Atm :=
 match c with
 | [.int _ a0, .slice _ _ a1, .str a2, .slice _ _ a3, a4, a5, a6, a7, a8] => ⟨a0, (a1.map Enc.unc), a2, (a3.map Enc.unc), (Enc.unc [a4, a5, a6, a7, a8])⟩
 | _ => default
theorem Atm.unc_cells (x : Atm) : Atm.unc x.cells = x := by
 cases x
 simp only [Atm.cells, Atm.unc, ff, jz]
instance : Enc Atm where
 sz := 9
 cells := Atm.cells
 enc x := .agg x.cells
 unc := Atm.unc
 dec v := match v with | .agg c => Atm.unc c | _ => default
 unc_cells := Atm.unc_cells
 dec_enc x := Atm.unc_cells x
structure Cnj where
 vars : List (ByteArray)
 atoms : List (Atm)
instance : Inhabited Cnj := ⟨⟨[], []⟩⟩
@[simp] theorem Cnj.eta (x : Cnj) : Cnj.mk x.vars x.atoms = x := rfl
def Cnj.cells (x : Cnj) : List AV := [.slice 1 false (aq x.vars), .slice 9 false (aq x.atoms)]
def Cnj.unc (c : List AV) : Cnj :=
 match c with
 | [.slice _ _ a0, .slice _ _ a1] => ⟨(a0.map Enc.unc), (a1.map Enc.unc)⟩
 | _ => default
theorem Cnj.unc_cells (x : Cnj) : Cnj.unc x.cells = x := by
 cases x
 simp only [Cnj.cells, Cnj.unc, ff, jz]
instance : Enc Cnj where
 sz := 2
 cells := Cnj.cells
 enc x := .agg x.cells
 unc := Cnj.unc
 dec v := match v with | .agg c => Cnj.unc c | _ => default
 unc_cells := Cnj.unc_cells
 dec_enc x := Cnj.unc_cells x
structure Rlt where
 arity : Int
 rows : List (List Int)
instance : Inhabited Rlt := ⟨⟨0, []⟩⟩
@[simp] theorem Rlt.eta (x : Rlt) : Rlt.mk x.arity x.rows = x := rfl
def Rlt.cells (x : Rlt) : List AV := [.int .i64 x.arity, .slice 1 false (aq x.rows)]
def Rlt.unc (c : List AV) : Rlt :=
 match c with
 | [.int _ a0, .slice _ _ a1] => ⟨a0, (a1.map Enc.unc)⟩
 | _ => default
theorem Rlt.unc_cells (x : Rlt) : Rlt.unc x.cells = x := by
 cases x
 simp only [Rlt.cells, Rlt.unc, ff, jz]
instance : Enc Rlt where
 sz := 2
 cells := Rlt.cells
 enc x := .agg x.cells
 unc := Rlt.unc
 dec v := match v with | .agg c => Rlt.unc c | _ => default
 unc_cells := Rlt.unc_cells
 dec_enc x := Rlt.unc_cells x
def W64 (x : Int) : Prop := 0 <= x /\ x < 18446744073709551616
def qi : List AV -> Option (Prop × AV)
 | [.int .u64 x, .int .u64 y, .int .u64 c] => some (W64 x /\ W64 y /\ (c = 0 ∨ c = 1), .tup [.int .u64 ((x + y + c) % 18446744073709551616), .int .u64 ((x + y + c) / 18446744073709551616)])
 | _ => none
def nb : List AV -> Option (Prop × AV)
 | [.int .u64 x, .int .u64 y, .int .u64 c] => some (W64 x /\ W64 y /\ (c = 0 ∨ c = 1), .tup [.int .u64 ((x - y - c) % 18446744073709551616), .int .u64 (if x < y + c then 1 else 0)])
 | _ => none
theorem m6 {w : World} {X : Nat -> Prop} {v : Value} {k : IntKind} {n : Int} (h : RepD w X v (.int k n)) : v = .int k n := by cases h; rfl
theorem sp {w : World} {X : Nat -> Prop} (k k' : IntKind) (a b : Int) : RepD w X (.tuple #[.int k a, .int k' b]) (.tup [.int k a, .int k' b]) :=
 .tup #[.int k a, .int k' b] [.int k a, .int k' b] (λ i => if i = 0 then .int k a else .int k' b) rfl (λ j hj => by
  match j, hj with
  | 0, _ => rfl
  | 1, _ => rfl
  | j + 2, hj => simp at hj; omega) (λ j v hj => by
  match j, hj with
  | 0, hj =>
   obtain rfl : AV.int k a = v := by simpa using hj
   exact .int _ _
  | 1, hj =>
   obtain rfl : AV.int k' b = v := by simpa using hj
   exact .int _ _
  | j + 2, hj => simp at hj)
theorem qG {w : World} {X : Nat -> Prop} {args : Array Value} {k : IntKind} {x y c : Int} (hsz : args.size = 3) (harg : ∀ (j : Nat) (u : AV), [AV.int k x, .int k y, .int k c][j]? = some u -> ∃ v, args[j]? = some v /\ RepD w X v u) : args = #[.int k x, .int k y, .int k c] := by
 obtain ⟨v0, a0, b0⟩ := harg 0 _ rfl
 obtain ⟨v1, a1, b1⟩ := harg 1 _ rfl
 obtain ⟨v2, a2, b2⟩ := harg 2 _ rfl
 rw [m6 b0] at a0
 rw [m6 b1] at a1
 rw [m6 b2] at a2
 apply Array.ext'
 match args, hsz with
 | ⟨[p, q, r]⟩, _ => simp at a0 a1 a2; simp [a0, a1, a2]
theorem Jb : uN prog 429 qi := by
 intro w X args avs ob r hsz harg hp hob
 unfold qi at hp
 split at hp
 ·rename_i x y c
  injection hp with hp; injection hp with e1 e2; subst e1 e2
  obtain ⟨⟨x0, x1⟩, ⟨y0, y1⟩, hc⟩ := hob
  rw [qG hsz harg]
  obtain ⟨x, rfl⟩ := eq_ofNat_of_zero_le x0
  obtain ⟨y, rfl⟩ := eq_ofNat_of_zero_le y0
  obtain ⟨c, rfl⟩ := eq_ofNat_of_zero_le (a := c) (by omega)
  refine ⟨_, ?_, sp _ _ _ _⟩
  rw [run_callFunc_extern func429 (by kernel_rfl) (by kernel_rfl) (by kernel_rfl) (e := add64Entry) (by kernel_rfl), run_add64 x y c (by omega) (by omega) (by omega) (by omega)]
  simp only [Result.andThen]
 ·cases hp
def qy : Array Value -> Sem Value := λ args => do
 let (x, y, b) <- Extern.MathBitsCarry.three "Sub64" args
 pure (Extern.MathBitsCarry.pair ((x + Extern.MathBitsCarry.m64 - y - b) % Extern.MathBitsCarry.m64) (if x < y + b then 1 else 0))
theorem BN (x y b : Nat) (hb : b <= 1) (P : Program) (w : World) :
  (qy #[.int .u64 x, .int .u64 y, .int .u64 b]).run P w =
   .ok (.tuple #[.int .u64 (((x + 18446744073709551616 - y - b) % 18446744073709551616 : Nat) : Int), .int .u64 ((if x < y + b then 1 else 0 : Nat) : Int)]) w := by
 have : b = 0 ∨ b = 1 := by omega
 rcases this with rfl | rfl <;> rfl
theorem LM : uN prog 431 nb := by
 intro w X args avs ob r hsz harg hp hob
 unfold nb at hp
 split at hp
 ·rename_i x y c
  injection hp with hp; injection hp with e1 e2; subst e1 e2
  obtain ⟨⟨x0, x1⟩, ⟨y0, y1⟩, hc⟩ := hob
  rw [qG hsz harg]
  obtain ⟨x, rfl⟩ := eq_ofNat_of_zero_le x0
  obtain ⟨y, rfl⟩ := eq_ofNat_of_zero_le y0
  obtain ⟨c, rfl⟩ := eq_ofNat_of_zero_le (a := c) (by omega)
  refine ⟨_, ?_, sp _ _ _ _⟩
  rw [run_callFunc_extern func431 (by kernel_rfl) (by kernel_rfl) (by kernel_rfl) (e := qy) (by kernel_rfl), BN x y c (by omega)]
  simp only [Result.andThen]
  have e1 : (((x + 18446744073709551616 - y - c) % 18446744073709551616 : Nat) : Int) = ((x : Int) - y - c) % 18446744073709551616 := by omega
  have e2 : ((if x < y + c then 1 else 0 : Nat) : Int) = if (x : Int) < y + c then 1 else 0 := by split <;> split <;> omega
  rw [e1, e2]
 ·cases hp
theorem Na {a : Int} (h : W64 a) : ie .and .u64 a 4294967295 = a % 4294967296 := by
 obtain ⟨h1, h2⟩ := h
 obtain ⟨a, rfl⟩ := eq_ofNat_of_zero_le h1
 show IntKind.wrap .u64 ((BitVec.ofInt 64 (a : Int) &&& BitVec.ofInt 64 ((4294967295 : Nat) : Int)).toNat : Int) = _
 rw [BitVec.ofInt_natCast, BitVec.ofInt_natCast, BitVec.toNat_and, BitVec.toNat_ofNat, BitVec.toNat_ofNat, Nat.mod_eq_of_lt (by omega), show 4294967295 % 2 ^ 64 = 2 ^ 32 - 1 by decide, Nat.and_two_pow_sub_one_eq_mod, IntKind.wrap_u64]
 omega
theorem wE {a b : Int} (ha : W64 a) (hb : W64 b) : ie .or .u64 a b = 0 ↔ a = 0 /\ b = 0 := by
 obtain ⟨h1, h2⟩ := ha
 obtain ⟨h3, h4⟩ := hb
 obtain ⟨a, rfl⟩ := eq_ofNat_of_zero_le h1
 obtain ⟨b, rfl⟩ := eq_ofNat_of_zero_le h3
 show IntKind.wrap .u64 ((BitVec.ofInt 64 (a : Int) ||| BitVec.ofInt 64 (b : Int)).toNat : Int) = _ ↔ _
 rw [BitVec.ofInt_natCast, BitVec.ofInt_natCast]
 have hlt := (BitVec.ofNat 64 a ||| BitVec.ofNat 64 b).isLt
 have e : IntKind.wrap .u64 ((BitVec.ofNat 64 a ||| BitVec.ofNat 64 b).toNat : Int) = 0 ↔ (BitVec.ofNat 64 a ||| BitVec.ofNat 64 b) = 0#64 := by
  rw [IntKind.wrap_u64, <- BitVec.toNat_inj]
  simp only [BitVec.toNat_ofNat]
  omega
 rw [e, BitVec.or_eq_zero_iff, <- BitVec.toNat_inj, <- BitVec.toNat_inj]
 simp only [BitVec.toNat_ofNat]
 omega
theorem KE {a b : Int} (ha : W64 a) (hb : W64 b) (k : Nat) (hk : k <= 64) (h1 : a % 2 ^ k = 0) (h2 : b < 2 ^ k) : ie .or .u64 a b = a + b := by
 obtain ⟨h3, h4⟩ := ha
 obtain ⟨h5, h6⟩ := hb
 obtain ⟨a, rfl⟩ := eq_ofNat_of_zero_le h3
 obtain ⟨b, rfl⟩ := eq_ofNat_of_zero_le h5
 have h2' : b < 2 ^ k := by
  have : ((2 ^ k : Nat) : Int) = 2 ^ k := by simp
  omega
 have h1' : a % 2 ^ k = 0 := by
  have : ((a % 2 ^ k : Nat) : Int) = (a : Int) % 2 ^ k := by simp
  omega
 obtain ⟨c, hc⟩ := Nat.dvd_of_mod_eq_zero h1'
 show IntKind.wrap .u64 ((BitVec.ofInt 64 (a : Int) ||| BitVec.ofInt 64 (b : Int)).toNat : Int) = _
 rw [BitVec.ofInt_natCast, BitVec.ofInt_natCast, BitVec.toNat_or, BitVec.toNat_ofNat, BitVec.toNat_ofNat, Nat.mod_eq_of_lt (by omega), Nat.mod_eq_of_lt (by omega), hc, <- Nat.two_pow_add_eq_or_of_lt h2' c, <- hc, IntKind.wrap_u64]
 have hab : a + b < 18446744073709551616 := by
  have e64 : (18446744073709551616 : Nat) = 2 ^ k * 2 ^ (64 - k) := by rw [<- Nat.pow_add, Nat.add_sub_cancel' hk]
  have hcl : c < 2 ^ (64 - k) := by
   have : 2 ^ k * c < 2 ^ k * 2 ^ (64 - k) := by rw [<- hc, <- e64]; omega
   exact Nat.lt_of_mul_lt_mul_left this
  have : 2 ^ k * (c + 1) <= 2 ^ k * 2 ^ (64 - k) := Nat.mul_le_mul_left _ hcl
  rw [<- e64, Nat.mul_succ, <- hc] at this
  omega
 omega
theorem gq (a : Int) : IntKind.wrap .u64 a = a % 18446744073709551616 := IntKind.wrap_u64 a
theorem JO (a : Nat) : (a : Int).fdiv (2 ^ min 32 (IntKind.bits .u64)) = ((a / 4294967296 : Nat) : Int) := by
 show (a : Int).fdiv 4294967296 = _
 rw [Int.fdiv_eq_ediv_of_nonneg _ (by decide)]
 omega
theorem Og (a : Nat) : (a : Int) % 4294967296 = ((a % 4294967296 : Nat) : Int) := by omega
theorem R6 (a b : Nat) : (a : Int) * (b : Int) = ((a * b : Nat) : Int) := (Int.natCast_mul a b).symm
theorem Q6 (a b : Nat) : (a : Int) + (b : Int) = ((a + b : Nat) : Int) := (Int.natCast_add a b).symm
theorem gc (a : Nat) (ha : a < 18446744073709551616) : IntKind.wrap .u64 (a : Int) = (a : Int) := by rw [IntKind.wrap_u64]; omega
theorem ph (a : Nat) (ha : a < 18446744073709551616) : ie .and .u64 (a : Int) 4294967295 = ((a % 4294967296 : Nat) : Int) := by
 rw [Na ⟨by omega, by omega⟩, Og]
def qp : List AV -> Option (Prop × AV)
 | [.int .u64 x, .int .u64 y] => some (W64 x /\ W64 y, .tup [.int .u64 (x * y / 18446744073709551616), .int .u64 (x * y % 18446744073709551616)])
 | _ => none
theorem Ku : PureOK prog G0 427 qp := by
 refine ey aR mixed func427 rfl rfl rfl (by kernel_rfl) (λ avs ob r hp hob => ?_)
 unfold qp at hp
 split at hp
 case h_2 => cases hp
 rename_i x y
 injection hp with hp; injection hp with e1 e2; subst e1 e2
 obtain ⟨hx, hy⟩ := hob
 refine ⟨(by show 2 <= _; decide), ?_⟩
 obtain ⟨bd, bt, bw, hhi⟩ := Lib.mul64_hi x.toNat y.toNat (by have := hx.2; omega) (by have := hy.2; omega)
 have x0 := hx.1
 have y0 := hy.1
 obtain ⟨x, rfl⟩ := eq_ofNat_of_zero_le x0
 obtain ⟨y, rfl⟩ := eq_ofNat_of_zero_le y0
 have hx' : x < 18446744073709551616 := by have := hx.2; omega
 have hy' : y < 18446744073709551616 := by have := hy.2; omega
 simp only [Int.toNat_natCast] at bd bt bw hhi
 have ba := Lib.half_mul_le (a := x / 4294967296) (b := y / 4294967296) (by omega) (by omega)
 have bb := Lib.half_mul_le (a := x / 4294967296) (b := y % 4294967296) (by omega) (by omega)
 have bc := Lib.half_mul_le (a := x % 4294967296) (b := y / 4294967296) (by omega) (by omega)
 have ba' : x / 4294967296 * (y / 4294967296) < 18446744073709551616 := by omega
 have bb' : x / 4294967296 * (y % 4294967296) < 18446744073709551616 := by omega
 have bc' : x % 4294967296 * (y / 4294967296) < 18446744073709551616 := by omega
 have bh1 : x / 4294967296 * (y / 4294967296) + (x / 4294967296 * (y % 4294967296) + x % 4294967296 * (y % 4294967296) / 4294967296) / 4294967296 < 18446744073709551616 := by omega
 have bh : x / 4294967296 * (y / 4294967296) + (x / 4294967296 * (y % 4294967296) + x % 4294967296 * (y % 4294967296) / 4294967296) / 4294967296 + ((x / 4294967296 * (y % 4294967296) + x % 4294967296 * (y % 4294967296) / 4294967296) % 4294967296 + x % 4294967296 * (y / 4294967296)) / 4294967296 < 18446744073709551616 := by omega
 simp [ac, ag, ae, am, ap, aa, au, ab, ao, ak, ah, ai, aj, argsρ]
 simp only [ph x hx', ph y hy', JO, R6, Q6, gc _ bd, gc _ bb', gc _ bt, ph _ bt, gc _ bc', gc _ bw, gc _ ba', gc _ bh1, gc _ bh]
 rw [hhi]
 refine ⟨by omega, by rw [IntKind.wrap_u64]⟩
def d5 (neg : Bool) (m : Nat) : Wide := ⟨neg, ((m / 18446744073709551616 : Nat) : Int), ((m % 18446744073709551616 : Nat) : Int)⟩
def cD (x : Wide) : Nat := x.hi.toNat * 18446744073709551616 + x.lo.toNat
structure GoodW (x : Wide) : Prop where
 hi : 0 <= x.hi /\ x.hi < 9223372036854775808
 lo : 0 <= x.lo /\ x.lo < 18446744073709551616
@[simp] theorem yg (n : Bool) (m : Nat) : cD (d5 n m) = m := by unfold cD d5; simp only [Int.toNat_natCast]; omega
@[simp] theorem Ky (n : Bool) (m : Nat) : (d5 n m).neg = n := rfl
theorem oo {n : Bool} {m : Nat} (h : m < 170141183460469231731687303715884105728) : GoodW (d5 n m) := ⟨by unfold d5; simp only; omega, by unfold d5; simp only; omega⟩
def dY (a b : Int) : Wide := d5 (decide (a < 0) != decide (b < 0)) (a.natAbs * b.natAbs)
theorem li {a b : Int} (ha : InR a) (hb : InR b) : a.natAbs * b.natAbs <= 1000000000000000000000000000000 := by
 unfold InR at ha hb
 exact Nat.mul_le_mul (n₂ := 1000000000000000) (m₂ := 1000000000000000) (by omega) (by omega)
theorem gP {a b : Int} (ha : InR a) (hb : InR b) : GoodW (dY a b) := oo (by have := li ha hb; omega)
noncomputable def CP : Ctx := mkC prog G0 [(428, .pure ui), (427, .pure qp)]
@[simp] theorem Xq : CP.P = prog := rfl
@[simp] theorem Xp : CP.G = G0 := rfl
@[simp] theorem Xo : CP.S 428 = .pure ui /\ CP.S 427 = .pure qp := ⟨rfl, rfl⟩
theorem OR : aB CP := aH (OU) func428 (aH (Ku) func427 (ax _ _))
def iW : PSp := aW (λ (a b : Int) => InR a /\ InR b) (λ a b => Enc.enc (dY a b))
theorem zh {a : Int} (h : InR a) : W64 (cH a) := by have := sM h; unfold W64; omega
theorem FO (a b : Int) : cH a * cH b = ((a.natAbs * b.natAbs : Nat) : Int) := by unfold cH; rw [Int.natCast_mul]
theorem IV : PureOK prog G0 385 iW := by
 refine db OR mixed func385 rfl rfl rfl (by kernel_rfl) (by decide) (λ a b ⟨h1, h2⟩ => ?_)
 have w1 := zh h1
 have w2 := zh h2
 simp [ac, ag, ae, am, ap, aa, au, ab, ao, ak, ah, ai, aj, ui, qp, h1, h2, w1, w2, FO, dY, d5]
 cases decide (a < 0) <;> cases decide (b < 0) <;> rfl
def qn : PSp := aW (λ (x y : Wide) => GoodW x /\ GoodW y) (λ x y => .bool (decide (cD x < cD y)))
theorem Kp : PureOK prog G0 430 qn := by
 refine db aR mixed func430 rfl rfl rfl (by kernel_rfl) (by decide) (λ x y ⟨⟨h1, h2⟩, ⟨h3, h4⟩⟩ => ?_)
 obtain ⟨xn, xh, xl⟩ := x
 obtain ⟨yn, yh, yl⟩ := y
 simp only at h1 h2 h3 h4
 unfold cD
 rcases em2 (xh < yh) with q1 | q1
 ·have e : (xh.toNat * 18446744073709551616 + xl.toNat < yh.toNat * 18446744073709551616 + yl.toNat) = True := eq_true (by have := of_eq_true q1; omega)
  simp [ac, ag, ae, am, ap, aa, au, ab, ao, ak, ah, ai, aj, q1, e]
 ·rcases em2 (xh = yh) with q2 | q2
  ·have e : (xh.toNat * 18446744073709551616 + xl.toNat < yh.toNat * 18446744073709551616 + yl.toNat) = (xl < yl) := propext (by have := of_eq_true q2; omega)
   simp [ac, ag, ae, am, ap, aa, au, ab, ao, ak, ah, ai, aj, q1, q2, e]
  ·have e : (xh.toNat * 18446744073709551616 + xl.toNat < yh.toNat * 18446744073709551616 + yl.toNat) = False := eq_false (by have := of_eq_false q2; have := of_eq_false q1; omega)
   simp [ac, ag, ae, am, ap, aa, au, ab, ao, ak, ah, ai, aj, q1, q2, e]
def nN (x : Wide) : Int := if cD x = 0 then 0 else if x.neg then -1 else 1
def fN : PSp := aN (λ (x : Wide) => GoodW x) (λ x => .int .i64 (nN x))
theorem EZ : PureOK prog G0 387 fN := by
 refine ci aR mixed func387 rfl rfl rfl (by kernel_rfl) (by decide) (λ x ⟨h1, h2⟩ => ?_)
 obtain ⟨xn, xh, xl⟩ := x
 simp only at h1 h2
 have e0 := wE (a := xh) (b := xl) ⟨h1.1, by omega⟩ h2
 unfold nN cD
 by_cases h : xh = 0 /\ xl = 0
 ·obtain ⟨rfl, rfl⟩ := h
  have e := e0.2 ⟨rfl, rfl⟩
  simp [ac, ag, ae, am, ap, aa, au, ab, ao, ak, ah, ai, aj, e]
 ·have e : (ie .or .u64 xh xl = 0) = False := eq_false (mt e0.1 h)
  have n0 : ¬ (xh.toNat * 18446744073709551616 + xl.toNat = 0) := by omega
  cases xn
  ·simp only [n0, if_false]
   simp [ac, ag, ae, am, ap, aa, au, ab, ao, ak, ah, ai, aj, e]
  ·simp only [n0, if_false]
   simp [ac, ag, ae, am, ap, aa, au, ab, ao, ak, ah, ai, aj, e]
noncomputable def CW : Ctx := mkC prog G0 [(429, .pure qi), (431, .pure nb), (430, .pure qn)]
@[simp] theorem Xz : CW.P = prog := rfl
@[simp] theorem Xy : CW.G = G0 := rfl
@[simp] theorem Xx : CW.S 429 = .pure qi /\ CW.S 431 = .pure nb /\ CW.S 430 = .pure qn := ⟨rfl, rfl, rfl⟩
theorem OT : aB CW := aD (vL Jb) (aD (vL LM) (aH (Kp) func430 (ax _ _)))
def fX (x y : Wide) : Wide := if x.neg = y.neg then d5 x.neg (cD x + cD y) else if cD x < cD y then d5 y.neg (cD y - cD x) else d5 x.neg (cD x - cD y)
def iV : PSp := aW (λ (x y : Wide) => GoodW x /\ GoodW y) (λ x y => Enc.enc (fX x y))
theorem IU : PureOK prog G0 386 iV := by
 refine db OT mixed func386 rfl rfl rfl (by kernel_rfl) (by decide) (λ x y ⟨g1, g2⟩ => ?_)
 obtain ⟨h1, h2⟩ := g1
 obtain ⟨h3, h4⟩ := g2
 have w1 : W64 x.hi := ⟨h1.1, by omega⟩
 have w2 : W64 y.hi := ⟨h3.1, by omega⟩
 have w3 : W64 x.lo := h2
 have w4 : W64 y.lo := h4
 by_cases hn : x.neg = y.neg
 ·have e : fX x y = d5 y.neg (cD x + cD y) := by unfold fX; rw [if_pos hn, hn]
  have c1 : (x.lo + y.lo) / 18446744073709551616 = 0 ∨ (x.lo + y.lo) / 18446744073709551616 = 1 := by omega
  simp [ac, ag, ae, am, ap, aa, au, ab, ao, ak, ah, ai, aj, hn, e, qi, w1, w2, w3, w4, c1]
  unfold d5 cD
  simp only
  omega
 ·have hn' : (x.neg == y.neg) = false := by simpa using hn
  by_cases hl : cD x < cD y
  ·have e : fX x y = d5 y.neg (cD y - cD x) := by unfold fX; rw [if_neg hn, if_pos hl]
   have c1 : (if y.lo < x.lo then (1 : Int) else 0) = 0 ∨ (if y.lo < x.lo then (1 : Int) else 0) = 1 := by split <;> simp
   simp [ac, ag, ae, am, ap, aa, au, ab, ao, ak, ah, ai, aj, hn', qn, e, nb, w1, w2, w3, w4, hl, (⟨h1, h2⟩ : GoodW x), (⟨h3, h4⟩ : GoodW y), -ite_eq_left_iff, -ite_eq_right_iff, c1]
   unfold cD at hl
   unfold d5 cD
   simp only
   split <;> omega
  ·have e : fX x y = d5 x.neg (cD x - cD y) := by unfold fX; rw [if_neg hn, if_neg hl]
   have c1 : (if x.lo < y.lo then (1 : Int) else 0) = 0 ∨ (if x.lo < y.lo then (1 : Int) else 0) = 1 := by split <;> simp
   simp [ac, ag, ae, am, ap, aa, au, ab, ao, ak, ah, ai, aj, hn', qn, e, nb, w1, w2, w3, w4, hl, (⟨h1, h2⟩ : GoodW x), (⟨h3, h4⟩ : GoodW y), -ite_eq_left_iff, -ite_eq_right_iff, c1]
   unfold cD at hl
   unfold d5 cD
   simp only
   split <;> omega
end
end Go.Proofs.YtnbcneiicnepcaaGreatDoor