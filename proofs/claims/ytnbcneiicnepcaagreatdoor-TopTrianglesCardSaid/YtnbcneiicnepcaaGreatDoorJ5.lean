/-
  Texts joined.
-/
import Derived.Test.YtnbcneiicnepcaaGreatDoorJ4
import Derived.Laws.RangeAny
import Derived.Test.YtnbcneiicnepcaaGreatDoorJ3
import Derived.Shelf.Spec.SlicesGrow
import Derived.Test.YtnbcneiicnepcaaGreatDoorProg
namespace Go.Proofs.YtnbcneiicnepcaaGreatDoor
open List (all_cons all_nil getD_eq_getElem?_getD getElem?_eq_getElem length_append length_eq_zero_iff length_map take_add_one take_length)
open Nat (le_refl lt_or_ge zero_le)
open Int (eq_ofNat_of_zero_le)
open _root_.Go.Proofs.Tryz
noncomputable section
set_option maxHeartbeats 16000000
open Go.RowKit
set_option linter.unusedSimpArgs false
set_option linter.unusedVariables false
set_option maxRecDepth 100000
theorem pO {w w' : World} {B : Nat} (h : Below B w w') (hB : w.heap.size <= B) : Keeps (λ _ => False) w w' :=
 ⟨h.os, h.tape, h.output, h.size, λ b hb _ => h.block b (Nat.lt_of_lt_of_le hb hB), trivial⟩
theorem wI {P : Program} {G : Nat -> AV} {f : FuncId} {α β : Type} [Enc α] [Enc β] {pre : α -> β -> Prop} {res : α -> β -> AV}
  (h : ∀ (w : World) (X : Nat -> Prop) (v v1 : Value) (a : α) (b : β), (∀ b, X b -> b < w.heap.size) -> (∀ g, RepD w X (.pointer (some ⟨g, 0, none⟩)) (gav (G g))) -> pre a b -> RepD w X v (Enc.enc a) -> RepD w X v1 (Enc.enc b) ->
   Calls P f #[v, v1] w λ e w' => ∃ u, e = .returned u /\ Keeps (λ _ => False) w w' /\ RepD w' X u (res a b)) : PureOK P G f (aW pre res) := by
 intro w X args avs ob r hX hG hsz harg hp hob
 unfold aW at hp
 split at hp
 ·rename_i av bv
  injection hp with hp; injection hp with e1 e2; subst e1 e2
  obtain ⟨v, hv, hr⟩ := harg 0 av rfl
  obtain ⟨v1, hv1, hr1⟩ := harg 1 bv rfl
  obtain rfl : args = #[v, v1] := by
   match args, hsz, hv, hv1 with
   | ⟨[x, y]⟩, _, hv, hv1 => simp at hv hv1; subst hv hv1; rfl
  have hr := dM hr
  have hr1 := dM hr1
  rw [hob.1] at hr
  rw [hob.2.1] at hr1
  exact h w X v v1 _ _ hX (λ g => (hG g).rep) hob.2.2 hr hr1
 ·cases hp
theorem Sq {w : World} {X : Nat -> Prop} {v : Value} {s : ByteArray} (h : RepD w X v (Enc.enc s)) : v = .string s := by cases h; rfl
structure FnV (g : Nat) where
instance (g : Nat) : Enc (FnV g) where
 sz := 1
 cells _ := [.fn g []]
 enc _ := .fn g []
 unc _ := ⟨⟩
 dec _ := ⟨⟩
 unc_cells _ := rfl
 dec_enc _ := rfl
@[simp] theorem Pv {g : Nat} (b : FnV g) : Enc.enc b = .fn g [] := rfl
def nT (r : Nat) : Bool := decide (r < 32) || decide (126 < r)
theorem tE (s : ByteArray) (j : Nat) (h : j < s.size) : (s[j]'h).toNat = btA s j := by
 unfold btA
 rw [getD_eq_getElem?_getD, getElem?_eq_getElem (by simpa using h)]
 rfl
theorem tn {s : ByteArray} {j : Nat} (h : j < s.size) (ha : btA s j < 128) : Utf8.decode s j = (btA s j, 1) := by
 rw [decode_ascii s j h (by rw [tE]; exact ha), tE]
theorem v6 (s : ByteArray) : ∀ (f pos : Nat), (∀ j, pos <= j -> j < s.size -> 32 <= btA s j /\ btA s j <= 126) -> Lib.idxFuncFrom nT true s f pos = -1
 | 0, _, _ => rfl
 | f + 1, pos, h => by
  unfold Lib.idxFuncFrom
  by_cases hp : pos < s.size
  ·have := h pos (le_refl _) hp
   rw [if_pos hp, tn hp (by omega), if_neg (by simp [nT]; omega)]
   exact v6 s f (pos + 1) λ j hj hs => h j (by omega) hs
  ·rw [if_neg hp]
theorem zK (s : ByteArray) : ∀ (f pos j : Nat), s.size - pos <= f -> pos <= j -> j < s.size -> ¬ (32 <= btA s j /\ btA s j <= 126) -> 0 <= Lib.idxFuncFrom nT true s f pos
 | 0, pos, j, hf, h1, h2, _ => by omega
 | f + 1, pos, j, hf, h1, h2, h3 => by
  unfold Lib.idxFuncFrom
  have hp : pos < s.size := by omega
  rw [if_pos hp]
  by_cases hg : 32 <= btA s pos /\ btA s pos <= 126
  ·rw [tn hp (by omega), if_neg (by simp [nT]; omega)]
   exact zK s f (pos + 1) j (by omega) (by rcases lt_or_ge pos j with h | h; exact h; rw [show pos = j by omega] at hg; exact absurd hg h3) h2 h3
  ·rw [if_pos ?_]
   ·omega
   ·by_cases hl : btA s pos < 128
    ·rw [tn hp hl]
     simp [nT]
     omega
    ·have := (decode_high s pos hp (by rw [tE]; omega)).1
     simp [nT]
     omega
theorem Gn (s : ByteArray) : decide (Lib.idxFunc nT true s < 0) = decide (∀ j, j < s.size -> 32 <= btA s j /\ btA s j <= 126) := by
 by_cases h : ∀ j, j < s.size -> 32 <= btA s j /\ btA s j <= 126
 ·rw [decide_eq_true h, Lib.idxFunc, v6 s _ _ λ j _ hj => h j hj]
  rfl
 ·rw [decide_eq_false h]
  obtain ⟨j, hj⟩ := Classical.not_forall.1 h
  obtain ⟨hj, hb⟩ := Classical.not_imp.1 hj
  have := zK s s.size 0 j (by omega) (by omega) hj hb
  exact decide_eq_false (by unfold Lib.idxFunc; omega)
theorem D1 {a b : Bool} (h : a = b) : Ending.returned (.bool a) = .returned (.bool b) := by rw [h]
theorem Nn (c : Int) (w : World) : Calls prog 296 #[.int .i32 c] w λ e w' => e = .returned (.bool (decide (c < 32) || decide (126 < c))) /\ w = w' := by
 by_cases h1 : c < 32 <;> by_cases h2 : 126 < c
 all_goals
  go_enter func296, Tryz.ntmps296
  go_wp2
  go_ret
  exact ⟨D1 (by simp [h1, h2]), rfl⟩
theorem RT : PureOK prog G0 295 (aW (λ (s : ByteArray) (_ : FnV 296) => True) (λ s _ => .int .i64 (Lib.idxFunc nT true s))) := wI λ w X v v1 s f hX hG _ h h1 => by
 obtain rfl := Sq h
 obtain rfl : v1 = .func (.func 296) #[] #[] := by
  cases h1 with
  | fn f cs cells val hl hm hv =>
   have : cs = #[] := by simpa using hl
   rw [this, zI, zJ, zH]
 refine (Tryz.strings_IndexFunc 296 #[] (enters_of func296 (by kernel_rfl) rfl) nT s w (λ W x _ => ?_)).mono λ e w' ⟨he, hb⟩ => ⟨_, he, pO hb (le_refl _), .int _ _⟩
 refine (Nn (x : Int) W).mono ?_
 rintro e w' ⟨he, rfl⟩
 have e2 : nT x = (decide ((x : Int) < 32) || decide (126 < (x : Int))) := by unfold nT; congr 1 <;> exact decide_eq_decide.2 (by omega)
 exact ⟨by rw [he, e2], 0, rfl⟩
def K3 : PSp := aW (λ (s : ByteArray) (_ : FnV 296) => True) (λ s _ => .int .i64 (Lib.idxFunc nT true s))
noncomputable def CVp : Ctx := mkC prog G0 [(295, .pure K3), (293, .pure sIn)]
@[simp] theorem VL : CVp.P = prog := rfl
@[simp] theorem VK : CVp.G = G0 := rfl
@[simp] theorem VJ : CVp.S 295 = .pure K3 /\ CVp.S 293 = .pure sIn := ⟨rfl, rfl⟩
theorem LA : aB CVp := aH (RT) func295 (aH (inP) func293 (ax _ _))
theorem Do (n : Int) : decide (InR n) = inB n := by
 unfold InR inB
 by_cases h1 : -1000000000000000 <= n <;> by_cases h2 : n <= 1000000000000000 <;> simp [h1, h2]
def jD (k : Int) : Prop := k = 0 ∨ k = 1 ∨ k = 2 ∨ k = 4 ∨ k = 5 ∨ k = 6
theorem S8 : PureOK prog G0 234 (aW (λ (v : Val) (k : Int) => WfV v /\ jD v.kind) (λ v _ => .bool (eW v 8))) := by
 refine db LA mixed func234 rfl rfl rfl (by kernel_rfl) (by decide) (λ v k ⟨hw, hk⟩ => ?_)
 rw [pW]
 by_cases hd : v.d = 0
 rotate_left
 ·have hb : ∀ a b, bx v a false b false = false := λ a b => by simp [bx, hd]
  rcases hk with c | c | c | c | c | c <;> simp [ac, ag, ae, am, ap, aa, au, ab, ao, ak, ah, ai, aj, c, hd, hb]
 rcases vI v.l with ⟨hl, hl'⟩ | ⟨hl, hl'⟩
 rotate_left
 ·have hb : ∀ a b, bx v a false b false = false := λ a b => by simp [bx, hl, hl']
  have hlen : (0 : Int) < v.l.length := by
   have := List.length_pos_iff.2 hl
   omega
  have hlen' : 0 < v.l.length := by omega
  by_cases hs : v.s = ⟨#[]⟩ <;> rcases hk with c | c | c | c | c | c <;> simp [ac, ag, ae, am, ap, aa, au, ab, ao, ak, ah, ai, aj, c, hd, hs, hb, hl, hlen, hlen']
 rcases hk with c | c | c | c | c | c
 ·by_cases hs : v.s = ⟨#[]⟩
  ·by_cases h0 : v.n = 0 <;> simp [ac, ag, ae, am, ap, aa, au, ab, ao, ak, ah, ai, aj, c, hd, hs, hl, bx, h0]
  ·simp [ac, ag, ae, am, ap, aa, au, ab, ao, ak, ah, ai, aj, c, hd, hs, hl, bx]
 ·by_cases hs : v.s = ⟨#[]⟩
  ·by_cases h0 : v.n = 0 <;> by_cases h1 : v.n = 1 <;> simp [ac, ag, ae, am, ap, aa, au, ab, ao, ak, ah, ai, aj, c, hd, hs, hl, bx, h0, h1]
  ·simp [ac, ag, ae, am, ap, aa, au, ab, ao, ak, ah, ai, aj, c, hd, hs, hl, bx]
 ·by_cases hs : v.s = ⟨#[]⟩
  ·simp [ac, ag, ae, am, ap, aa, au, ab, ao, ak, ah, ai, aj, c, hd, hs, hl, bx, sIn, Do]
  ·simp [ac, ag, ae, am, ap, aa, au, ab, ao, ak, ah, ai, aj, c, hd, hs, hl, bx]
 ·have hi := Gn v.s
  by_cases h0 : v.n = 0
  ·by_cases h1 : v.s.size <= 100
   ·have h1' : (v.s.size : Int) <= 100 := by omega
    simp [ac, ag, ae, am, ap, aa, au, ab, ao, ak, ah, ai, aj, c, hd, hl, bx, h0, h1, h1', K3, nZ, hi]
   ·have h1' : ¬ (v.s.size : Int) <= 100 := by omega
    simp [ac, ag, ae, am, ap, aa, au, ab, ao, ak, ah, ai, aj, c, hd, hl, bx, h0, h1, h1', nZ]
  ·simp [ac, ag, ae, am, ap, aa, au, ab, ao, ak, ah, ai, aj, c, hd, hl, bx, h0]
 ·by_cases hs : v.s = ⟨#[]⟩
  ·by_cases h0 : 1 <= v.n <;> by_cases h1 : v.n <= 1000000 <;> simp [ac, ag, ae, am, ap, aa, au, ab, ao, ak, ah, ai, aj, c, hd, hs, hl, bx, h0, h1]
  ·simp [ac, ag, ae, am, ap, aa, au, ab, ao, ak, ah, ai, aj, c, hd, hs, hl, bx]
 ·by_cases hs : v.s = ⟨#[]⟩
  ·by_cases h0 : 1 <= v.n <;> by_cases h1 : v.n <= 1000000 <;> simp [ac, ag, ae, am, ap, aa, au, ab, ao, ak, ah, ai, aj, c, hd, hs, hl, bx, h0, h1]
  ·simp [ac, ag, ae, am, ap, aa, au, ab, ao, ak, ah, ai, aj, c, hd, hs, hl, bx]
def sVP : PSp := aW (λ (v : Val) (k : Int) => WfV v /\ jD v.kind) (λ v _ => .bool (eW v 8))
noncomputable def CVq : Ctx := mkC prog G0 [(234, .pure sVP)]
@[simp] theorem VO : CVq.P = prog := rfl
@[simp] theorem VN : CVq.G = G0 := rfl
@[simp] theorem VM : CVq.S 234 = .pure sVP := rfl
theorem EQ : aB CVq := aH (S8) func234 (ax _ _)
def sVa : PSp := aN (λ (v : Val) => WfV v /\ jD v.kind) (λ v => .bool (eW v 8))
theorem vP : PureOK prog G0 169 sVa := by
 refine ci EQ mixed func169 rfl rfl rfl (by kernel_rfl) (by decide) (λ v ⟨hw, hk⟩ => ?_)
 simp [ac, ag, ae, am, ap, aa, au, ab, ao, ak, ah, ai, aj, sVP, hw, hk]
noncomputable def CVr : Ctx := mkC prog G0 [(169, .pure sVa)]
@[simp] theorem VR : CVr.P = prog := rfl
@[simp] theorem VQ : CVr.G = G0 := rfl
@[simp] theorem VP : CVr.S 169 = .pure sVa := rfl
theorem LB : aB CVr := aH (vP) func169 (ax _ _)
theorem KK : PureOK prog G0 105 iG := by
 refine ci LB mixed func105 rfl rfl rfl (by kernel_rfl) (by decide) (λ v hw => ?_)
 unfold fh okV
 by_cases h1 : v.kind = 1
 ·simp [ac, ag, ae, am, ap, aa, au, ab, ao, ak, ah, ai, aj, sVa, jD, hw, h1, fa h1]
 ·by_cases h2 : v.kind = 2
  ·simp [ac, ag, ae, am, ap, aa, au, ab, ao, ak, ah, ai, aj, sVa, jD, hw, h1, h2, fa h2]
  ·by_cases h4 : v.kind = 4
   ·simp [ac, ag, ae, am, ap, aa, au, ab, ao, ak, ah, ai, aj, sVa, jD, hw, h1, h2, h4, fa h4]
   ·simp [ac, ag, ae, am, ap, aa, au, ab, ao, ak, ah, ai, aj, h1, h2, h4]
noncomputable def CPp : Ctx := mkC prog G0 [(102, .pure nL), (104, .pure nY), (105, .pure iG)]
@[simp] theorem Ur : CPp.P = prog := rfl
@[simp] theorem Uq : CPp.G = G0 := rfl
@[simp] theorem Up : CPp.S 102 = .pure nL /\ CPp.S 104 = .pure nY /\ CPp.S 105 = .pure iG := ⟨rfl, rfl, rfl⟩
theorem yN : aB CPp := aH (NG) func102 (aH (Sr) func104 (aH (KK) func105 (ax _ _)))
theorem Sk : PureOK prog G0 56 kU := by
 refine db yN mixed func56 rfl rfl rfl (by kernel_rfl) (by decide) (λ l ps ⟨hl, hp, hw⟩ => ?_)
 have hl' := hl
 have hp' := hp
 unfold maxLen at hl' hp'
 rcases em2 (8 < l.length) with h1 | h1
 ·have h1' : ((8 : Int) < l.length) = True := eq_true (by have := of_eq_true h1; omega)
  simp [ac, ag, ae, am, ap, aa, au, ab, ao, ak, ah, ai, aj, cn, h1, h1']
 have h1' : ((8 : Int) < l.length) = False := eq_false (by have := of_eq_false h1; omega)
 rcases em2 (16 < ps.length) with h2 | h2
 ·have h2' : ((16 : Int) < ps.length) = True := eq_true (by have := of_eq_true h2; omega)
  simp [ac, ag, ae, am, ap, aa, au, ab, ao, ak, ah, ai, aj, cn, h1, h1', h2, h2']
 have h2' : ((16 : Int) < ps.length) = False := eq_false (by have := of_eq_false h2; omega)
 have hk : ps.length <= 1000 := by have := of_eq_false h2; omega
 have hkl : (gB ps).length <= maxLen := by unfold gB maxLen; simp; omega
 simp [ac, ag, ae, am, ap, aa, au, ab, ao, ak, ah, ai, aj, h1', h2']
 refine aT yN mixed (λ i : Nat => ⟨[(0, Enc.enc l), (1, Enc.enc ps), (5, .own 0 (gB (ps.take i)).length), (18, Enc.enc ps), (19, .int .i64 ps.length), (20, .int .i64 i)], [⟨9, 1, aq (gB (ps.take i)), true, true⟩]⟩) (λ i => i <= ps.length) (λ i => ps.length - i) (by kernel_rfl) ⟨0, by simp, (ev 5 1 9 (by simp) (by decide)).trans (ar (by simp [gB]))⟩ (λ i hi => ?_)
 by_cases hlt : i < ps.length
 ·have i1 : I64 ((i : Int) + 1) := by unfold I64; omega
  have hk : (gB (ps.take i)).length = i := by simp [gB]; omega
  simp [ac, ag, ae, am, ap, aa, au, ab, ao, ak, ah, ai, aj, hlt, aw hlt, i1, hk]
  refine ⟨⟨by omega, by omega⟩, i + 1, by omega, by omega, ?_⟩
  rw [rV hlt]
  exact bH 1 (by simp [hk]) (by simp) (by simp [AV.clean, AV.clean1]) (by simp) (by simp [aq])
 have e0 : ps.take i = ps := List.take_of_length_le (by omega)
 cases h3 : eI l
 ·simp [ac, ag, ae, am, ap, aa, au, ab, ao, ak, ah, ai, aj, hlt, e0, cn, h1, h2, nL, hl, h3]
 cases h4 : eI (gB ps)
 ·simp [ac, ag, ae, am, ap, aa, au, ab, ao, ak, ah, ai, aj, hlt, e0, cn, h1, h2, nL, hl, hkl, h3, h4]
 cases h5 : qf l
 ·simp [ac, ag, ae, am, ap, aa, au, ab, ao, ak, ah, ai, aj, hlt, e0, cn, h1, h2, nL, nY, hl, hkl, h3, h4, h5]
 cases h6 : qf (gB ps)
 ·simp [ac, ag, ae, am, ap, aa, au, ab, ao, ak, ah, ai, aj, hlt, e0, cn, h1, h2, nL, nY, hl, hkl, h3, h4, h5, h6]
 have e : cn l ps = if gF ps = false then 8 else 0 := by simp [cn, h1, h2, h3, h4, h5, h6]
 rw [e]
 simp [ac, ag, ae, am, ap, aa, au, ab, ao, ak, ah, ai, aj, hlt, e0, nL, nY, hl, hkl, h3, h4, h5, h6]
 refine aT yN mixed (λ i : Nat => ⟨[(1, Enc.enc ps), (44, Enc.enc ps), (45, .int .i64 ps.length), (46, .int .i64 i)], []⟩) (λ i => i <= ps.length /\ ∀ j, j < i -> fh (ix ps j).v = true) (λ i => ps.length - i) (by kernel_rfl) ⟨0, by simp, bH 0 (by simp) (by simp) (by simp [AV.clean, AV.clean1]) (by simp) (by simp)⟩ (λ i ⟨hi, hall⟩ => ?_)
 by_cases hlt : i < ps.length
 ·have i1 : I64 ((i : Int) + 1) := by unfold I64; omega
  have hwv := (hw _ (bJ hlt)).v
  cases hb : fh (ix ps i).v
  ·have e2 : gF ps = false := decide_eq_false λ h => by
    have := h _ (bJ hlt)
    rw [hb] at this
    cases this
   simp [ac, ag, ae, am, ap, aa, au, ab, ao, ak, ah, ai, aj, hlt, aw hlt, iG, hwv, hb, e2]
  ·simp [ac, ag, ae, am, ap, aa, au, ab, ao, ak, ah, ai, aj, hlt, aw hlt, iG, hwv, hb, i1]
   refine ⟨i + 1, ⟨by omega, λ j hj => ?_⟩, by omega, bH 0 (by simp) (by simp) (by simp [AV.clean, AV.clean1]) (by simp) (by simp)⟩
   rcases Nat.lt_or_eq_of_le (Nat.le_of_lt_succ hj) with h | rfl
   ·exact hall j h
   ·exact hb
 ·have e2 : gF ps = true := decide_eq_true λ s hs => by
   obtain ⟨j, hj, rfl⟩ := List.mem_iff_getElem.1 hs
   have := hall j (by omega)
   rwa [bF hj] at this
  simp [ac, ag, ae, am, ap, aa, au, ab, ao, ak, ah, ai, aj, hlt, e2]
noncomputable def CGc : Ctx := mkC prog G0 [(56, .pure kU), (57, .pure ql), (58, .pure fy)]
@[simp] theorem TI : CGc.P = prog := rfl
@[simp] theorem TH : CGc.G = G0 := rfl
@[simp] theorem TG : CGc.S 56 = .pure kU /\ CGc.S 57 = .pure ql /\ CGc.S 58 = .pure fy := ⟨rfl, rfl, rfl⟩
theorem yK : aB CGc := aH (Sk) func56 (aH (RR) func57 (aH (IN) func58 (ax _ _)))
def sGc : PSp := aN (λ (g : Gra) => WfG g /\ cB g = 0) (λ _ => .int .i64 0)
theorem gcP : PureOK prog G0 23 sGc := by
 refine ci yK mixed func23 rfl rfl rfl (by kernel_rfl) (by decide) (λ g ⟨hw, hc⟩ => ?_)
 unfold cB at hc
 split at hc
 ·omega
 split at hc
 ·omega
 split at hc
 ·omega
 split at hc
 ·omega
 split at hc
 ·omega
 split at hc
 ·omega
 rename_i a1 a2 a3 a4 a5 a6
 have a1' : ¬ (2000 : Int) < g.nodes.length := by omega
 have a2' : ¬ (4000 : Int) < g.edges.length := by omega
 have hn0 : jX (dW g) g.nodes.length = 0 := by
  split at hc
  ·rename_i h; exact absurd hc h
  ·rename_i h; exact Classical.not_not.1 h
 rw [if_neg (by rw [hn0]; simp)] at hc
 have hn := firN_zero.1 hn0
 have he := firN_zero.1 hc
 have nf : ∀ i, i < g.nodes.length -> ¬ (0 < i /\ (ix g.nodes i).id <= (ix g.nodes (i - 1)).id) /\ ¬ (ix g.nodes i).id < 1 /\ ¬ g.nn <= (ix g.nodes i).id /\ cn (ix g.nodes i).labels (ix g.nodes i).props = 0 := λ i hi => by
  have := hn i hi
  unfold dW at this
  split at this
  ·omega
  split at this
  ·omega
  split at this
  ·omega
  rename_i b1 b2 b3
  exact ⟨b1, b2, b3, this⟩
 have ef : ∀ i, i < g.edges.length -> ¬ (0 < i /\ (ix g.edges i).id <= (ix g.edges (i - 1)).id) /\ ¬ (ix g.edges i).id < 1 /\ ¬ g.ne <= (ix g.edges i).id /\ (eT g (ix g.edges i).frm).2 = true /\ (eT g (ix g.edges i).to).2 = true /\ da (ix g.edges i).type = true /\ cn [] (ix g.edges i).props = 0 := λ i hi => by
  have := he i hi
  unfold ig at this
  split at this
  ·omega
  split at this
  ·omega
  split at this
  ·omega
  split at this
  ·omega
  split at this
  ·omega
  split at this
  ·omega
  rename_i b1 b2 b3 b4 b5 b6
  exact ⟨b1, b2, b3, by simpa using b4, by simpa using b5, by simpa using b6, this⟩
 have hup : UpN g.nodes := by
  have key : ∀ d i, i + d + 1 < g.nodes.length -> (ix g.nodes i).id < (ix g.nodes (i + d + 1)).id := by
   intro d
   induction d with
   | zero => intro i hi; have := (nf (i + 1) hi).1; rw [Nat.add_sub_cancel] at this; rw [Nat.add_zero]; omega
   | succ d ih =>
    intro i hi
    have h1 := ih i (by omega)
    have h2 := (nf (i + d + 1 + 1) (by omega)).1
    rw [Nat.add_sub_cancel] at h2
    rw [show i + (d + 1) + 1 = i + d + 1 + 1 by omega]
    omega
  intro i j hij hj
  have := key (j - i - 1) i (by omega)
  rwa [show i + (j - i - 1) + 1 = j by omega] at this
 have hasT : ∀ x, (eT g x).2 = true -> tH g.nodes x = true := λ x hx => Gm hup (pU hx)
 have hnl : g.nodes.length <= 1000000 := by omega
 simp [ac, ag, ae, am, ap, aa, au, ab, ao, ak, ah, ai, aj, a1', a2', a3, a4, a5, a6]
 refine aT yK mixed (λ i : Nat => ⟨[(1, .ptr 0 1 4 0 0), (38, Enc.enc g.nodes), (39, .int .i64 g.nodes.length), (40, .int .i64 i)], [⟨25, 4, [[.slice 3 false (aq g.nodes), .slice 5 false (aq g.edges), .int .i64 g.nn, .int .i64 g.ne]], true, true⟩]⟩) (λ i => i <= g.nodes.length) (λ i => g.nodes.length - i) (by kernel_rfl) ⟨0, by simp, ar (by simp)⟩ (λ i hi => ?_)
 by_cases hlt : i < g.nodes.length
 ·have i1 : I64 ((i : Int) + 1) := by unfold I64; omega
  obtain ⟨b1, b2, b3, b4⟩ := nf i hlt
  have hwn := hw.n _ (bJ hlt)
  have p1 := hwn.ll
  have p2 := hwn.pl
  have p3 := hwn.p
  rcases Nat.eq_zero_or_pos i with h0 | hpos
  ·have hz : ((0 : Int) < i) = False := eq_false (by omega)
   have hz2 : (0 < i) = False := eq_false (by omega)
   simp [ac, ag, ae, am, ap, aa, au, ab, ao, ak, ah, ai, aj, hlt, aw hlt, i1, b2, b3, hz, hz2, kU, p1, p2, b4]
   exact ⟨p3, i + 1, by omega, by omega, bH 1 (by simp) (by simp) (by simp [AV.clean, AV.clean1]) (by simp) (by simp)⟩
  ·have hz : (0 : Int) < i := by omega
   have i2 : I64 ((i : Int) - 1) := by unfold I64; omega
   have e1 : ((i : Int) - 1).toNat = i - 1 := by omega
   have hlt1 : i - 1 < g.nodes.length := by omega
   have c1 : ¬ (ix g.nodes i).id <= (ix g.nodes (i - 1)).id := λ h => b1 ⟨hpos, h⟩
   have c2 : (0 : Int) <= (i : Int) - 1 := by omega
   have c3 : (i : Int) - 1 < g.nodes.length := by omega
   simp [ac, ag, ae, am, ap, aa, au, ab, ao, ak, ah, ai, aj, hlt, aw hlt, aw hlt1, i1, i2, e1, b2, b3, hz, hpos, c1, c2, c3, kU, p1, p2, b4]
   exact ⟨by omega, p3, i + 1, by omega, by omega, bH 1 (by simp) (by simp) (by simp [AV.clean, AV.clean1]) (by simp) (by simp)⟩
 simp [ac, ag, ae, am, ap, aa, au, ab, ao, ak, ah, ai, aj, hlt]
 refine aT yK mixed (λ i : Nat => ⟨[(1, .ptr 0 1 4 0 0), (79, Enc.enc g.edges), (80, .int .i64 g.edges.length), (81, .int .i64 i)], [⟨25, 4, [[.slice 3 false (aq g.nodes), .slice 5 false (aq g.edges), .int .i64 g.nn, .int .i64 g.ne]], true, true⟩]⟩) (λ i => i <= g.edges.length) (λ i => g.edges.length - i) (by kernel_rfl) ⟨0, by simp, ar (by simp)⟩ (λ i hi => ?_)
 by_cases hlt : i < g.edges.length
 ·have i1 : I64 ((i : Int) + 1) := by unfold I64; omega
  obtain ⟨b1, b2, b3, b4, b5, b6, b7⟩ := ef i hlt
  have hwe := hw.e _ (bJ hlt)
  have p2 := hwe.pl
  have p3 := hwe.p
  have c4 := hasT _ b4
  have c5 := hasT _ b5
  have pd : (Enc.dec (.slice 1 true []) : List ByteArray) = [] := rfl
  have p0 : (0 : Nat) <= maxLen := zero_le _
  rcases Nat.eq_zero_or_pos i with h0 | hpos
  ·have hz : ((0 : Int) < i) = False := eq_false (by omega)
   have hz2 : (0 < i) = False := eq_false (by omega)
   simp [ac, ag, ae, am, ap, aa, au, ab, ao, ak, ah, ai, aj, hlt, aw hlt, i1, b2, b3, hz, hz2, ql, hnl, hup, c4, c5, fy, b6, kU, p2, b7]
   exact ⟨p3, i + 1, by omega, by omega, bH 1 (by simp) (by simp) (by simp [AV.clean, AV.clean1]) (by simp) (by simp)⟩
  ·have hz : (0 : Int) < i := by omega
   have i2 : I64 ((i : Int) - 1) := by unfold I64; omega
   have e1 : ((i : Int) - 1).toNat = i - 1 := by omega
   have hlt1 : i - 1 < g.edges.length := by omega
   have c1 : ¬ (ix g.edges i).id <= (ix g.edges (i - 1)).id := λ h => b1 ⟨hpos, h⟩
   have c2 : (0 : Int) <= (i : Int) - 1 := by omega
   have c3 : (i : Int) - 1 < g.edges.length := by omega
   simp [ac, ag, ae, am, ap, aa, au, ab, ao, ak, ah, ai, aj, hlt, aw hlt, aw hlt1, i1, i2, e1, b2, b3, hz, hpos, c1, c2, c3, ql, hnl, hup, c4, c5, fy, b6, kU, p2, b7]
   exact ⟨by omega, p3, i + 1, by omega, by omega, bH 1 (by simp) (by simp) (by simp [AV.clean, AV.clean1]) (by simp) (by simp)⟩
 ·simp [ac, ag, ae, am, ap, aa, au, ab, ao, ak, ah, ai, aj, hlt]
theorem xR : ByteArray.empty = ⟨#[]⟩ := rfl
def vOf (k n : Int) : Val := .mk k n 0 ⟨#[]⟩ []
theorem O6 : PureOK prog G0 242 (aN (λ (_ : Int) => True) (λ n => Enc.enc (vOf 2 n))) := by
 refine ci aR mixed func242 rfl rfl rfl (by kernel_rfl) (by decide) (λ n _ => ?_)
 simp [ac, ag, ae, am, ap, aa, au, ab, ao, ak, ah, ai, aj, vOf, xR]
theorem Fi : PureOK prog G0 238 (aN (λ (_ : Int) => True) (λ n => Enc.enc (vOf 5 n))) := by
 refine ci aR mixed func238 rfl rfl rfl (by kernel_rfl) (by decide) (λ n _ => ?_)
 simp [ac, ag, ae, am, ap, aa, au, ab, ao, ak, ah, ai, aj, vOf, xR]
theorem za : PureOK prog G0 305 (aN (λ (_ : Int) => True) (λ n => Enc.enc (vOf 6 n))) := by
 refine ci aR mixed func305 rfl rfl rfl (by kernel_rfl) (by decide) (λ n _ => ?_)
 simp [ac, ag, ae, am, ap, aa, au, ab, ao, ak, ah, ai, aj, vOf, xR]
theorem LT : PureOK prog G0 178 (sH (Enc.enc (vOf 0 0))) := by
 refine OJ aR mixed func178 rfl rfl rfl (by kernel_rfl) ?_
 simp [ac, ag, ae, am, ap, aa, au, ab, ao, ak, ah, ai, aj, vOf, xR]
theorem LS : PureOK prog G0 321 (aN (λ (_ : Bool) => True) (λ b => Enc.enc (vOf 1 (if b then 1 else 0)))) := by
 refine ci aR mixed func321 rfl rfl rfl (by kernel_rfl) (by decide) (λ b _ => ?_)
 cases b <;> simp [ac, ag, ae, am, ap, aa, au, ab, ao, ak, ah, ai, aj, vOf, xR]
def BR : PSp := aN (λ (t : Int) => 0 <= t /\ t <= 2) (λ t => .int .i64 t)
theorem Kh : PureOK prog G0 373 BR := by
 refine ci aR mixed func373 rfl rfl rfl (by kernel_rfl) (by decide) (λ t ⟨h1, h2⟩ => ?_)
 have : t = 0 ∨ t = 1 ∨ t = 2 := by omega
 rcases this with rfl | rfl | rfl <;> simp [ac, ag, ae, am, ap, aa, au, ab, ao, ak, ah, ai, aj]
theorem y7 : PureOK prog G0 310 (aN (λ (_ : Bool) => True) (λ b => .int .i64 (if b then 2 else 0))) := by
 refine ci aR mixed func310 rfl rfl rfl (by kernel_rfl) (by decide) (λ b _ => ?_)
 cases b <;> simp [ac, ag, ae, am, ap, aa, au, ab, ao, ak, ah, ai, aj]
def rm : PSp := aN (λ (_ : Bool) => True) (λ b => .int .i64 (if b then 2 else 0))
def K5 : PSp := sH (Enc.enc (vOf 0 0))
def KZ : PSp := aN (λ (_ : Bool) => True) (λ b => Enc.enc (vOf 1 (if b then 1 else 0)))
noncomputable def CTv : Ctx := mkC prog G0 [(373, .pure BR), (310, .pure rm), (178, .pure K5), (321, .pure KZ), (169, .pure sVa)]
@[simp] theorem Vm : CTv.P = prog := rfl
@[simp] theorem Vl : CTv.G = G0 := rfl
@[simp] theorem Vk : CTv.S 373 = .pure BR /\ CTv.S 310 = .pure rm /\ CTv.S 178 = .pure K5 /\ CTv.S 321 = .pure KZ /\ CTv.S 169 = .pure sVa := ⟨rfl, rfl, rfl, rfl, rfl⟩
theorem yO : aB CTv := aH (Kh) func373 (aH (y7) func310 (aH (LT) func178 (aH (LS) func321 (aH (vP) func169 (ax _ _)))))
def Eu : PSp := aN (λ (t : Int) => 0 <= t /\ t <= 2) (λ t => .int .i64 (2 - t))
theorem Sd : PureOK prog G0 323 Eu := by
 refine ci yO mixed func323 rfl rfl rfl (by kernel_rfl) (by decide) (λ t ⟨h1, h2⟩ => ?_)
 have i1 : I64 (2 - t) := by unfold I64; omega
 simp [ac, ag, ae, am, ap, aa, au, ab, ao, ak, ah, ai, aj, BR, h1, h2, i1]
def D8 : PSp := aW (λ (s t : Int) => (0 <= s /\ s <= 2) /\ 0 <= t /\ t <= 2) (λ s t => .int .i64 (if s <= t then s else t))
theorem Q8 : PureOK prog G0 324 D8 := by
 refine db yO mixed func324 rfl rfl rfl (by kernel_rfl) (by decide) (λ s t ⟨⟨h1, h2⟩, h3, h4⟩ => ?_)
 have e1 : s = 0 ∨ s = 1 ∨ s = 2 := by omega
 have e2 : t = 0 ∨ t = 1 ∨ t = 2 := by omega
 rcases e1 with rfl | rfl | rfl <;> rcases e2 with rfl | rfl | rfl <;> simp [ac, ag, ae, am, ap, aa, au, ab, ao, ak, ah, ai, aj, BR]
def yD : PSp := aN (λ (t : Int) => 0 <= t /\ t <= 2) (λ t => Enc.enc (if t = 1 then vOf 0 0 else vOf 1 (if t = 2 then 1 else 0)))
theorem x4 : PureOK prog G0 322 yD := by
 refine ci yO mixed func322 rfl rfl rfl (by kernel_rfl) (by decide) (λ t ⟨h1, h2⟩ => ?_)
 have e1 : t = 0 ∨ t = 1 ∨ t = 2 := by omega
 rcases e1 with rfl | rfl | rfl <;> simp [ac, ag, ae, am, ap, aa, au, ab, ao, ak, ah, ai, aj, BR, K5, KZ, sH, vOf, xR]
theorem kB (k n : Int) : WfV (vOf k n) := .mk _ _ _ _ _ (zero_le _) (zero_le _) (λ x hx => by cases hx)
theorem oF {n : Int} (h : InR n) : eW (vOf 2 n) 8 = true := by
 rw [pW]
 have : inB n = true := by rw [<- Do]; exact decide_eq_true h
 simp [vOf, bx, this]
theorem DJ (b : Bool) : eW (vOf 1 (if b then 1 else 0)) 8 = true := by
 rw [pW]
 cases b <;> simp [vOf, bx]
def yH : PSp := aN (λ (v : Val) => ∃ b : Bool, v = vOf 1 (if b then 1 else 0)) (λ v => .int .i64 (if v.n = 1 then 2 else 0))
noncomputable def CNb : Ctx := mkC prog G0 [(169, .pure sVa), (310, .pure rm)]
@[simp] theorem Ub : CNb.P = prog := rfl
@[simp] theorem Ua : CNb.G = G0 := rfl
@[simp] theorem T9 : CNb.S 169 = .pure sVa /\ CNb.S 310 = .pure rm := ⟨rfl, rfl⟩
theorem EM : aB CNb := aH (vP) func169 (aH (y7) func310 (ax _ _))
theorem AH : PureOK prog G0 239 yH := by
 refine ci EM mixed func239 rfl rfl rfl (by kernel_rfl) (by decide) (λ v ⟨b, hb⟩ => ?_)
 subst hb
 have hk := DJ b
 have hw := kB 1 (if b then 1 else 0)
 cases b
 ·simp [vOf] at hk hw
  simp [ac, ag, ae, am, ap, aa, au, ab, ao, ak, ah, ai, aj, vOf, sVa, jD, hk, hw, rm]
 ·simp [vOf] at hk hw
  simp [ac, ag, ae, am, ap, aa, au, ab, ao, ak, ah, ai, aj, vOf, sVa, jD, hk, hw, rm]
def nM : PSp := aN (λ (v : Val) => ∃ n, InR n /\ v = vOf 2 n) (λ v => .tup [.agg [.int .i64 v.n, .int .i64 1], .bool true])
theorem Ac : PureOK prog G0 243 nM := by
 refine ci EM mixed func243 rfl rfl rfl (by kernel_rfl) (by decide) (λ v ⟨n, hn, hv⟩ => ?_)
 subst hv
 have hk := oF hn
 have hw := kB 2 n
 simp [vOf] at hk hw
 simp [ac, ag, ae, am, ap, aa, au, ab, ao, ak, ah, ai, aj, vOf, sVa, jD, hk, hw]
def kT (A : List AV) (H : List Blk) (r : AV) (H' : List Blk) : List AV -> List Blk -> Option (Prop × AV × List Blk) := λ args h => some (args = A /\ h = H, r, H')
def aK (P : Program) (G : Nat -> AV) (f : FuncId) (A : List AV) (H : List Blk) (r : AV) (H' : List Blk) : Prop := bg P G f (kT A H r H')
theorem A4 {P : Program} {G : Nat -> AV} {f : FuncId} {g : List AV -> List Blk -> Option (Prop × AV × List Blk)} (h : bg P G f g) {A : List AV} {H : List Blk} {ob : Prop} {r : AV} {H' : List Blk} (hg : g A H = some (ob, r, H')) (hob : ob) : aK P G f A H r H' := by
 intro w X β H1 args avs ob1 r1 H1' R hG hsz harg hp hob1
 unfold kT at hp
 simp only [Option.some.injEq, Prod.mk.injEq] at hp
 obtain ⟨rfl, rfl, rfl⟩ := hp
 obtain ⟨rfl, rfl⟩ := hob1
 exact h w X β H1 args avs ob r H' R hG hsz harg hg hob
theorem jh {P : Program} {G : Nat -> AV} {f : FuncId} {g : List AV -> List Blk -> Option (Prop × AV × List Blk)} (h : ∀ A H ob r H', g A H = some (ob, r, H') -> ob -> aK P G f A H r H') : bg P G f g := by
 intro w X β H args avs ob r H' R hG hsz harg hp hob
 exact h avs H ob r H' hp hob w X β H args avs _ r H' R hG hsz harg rfl ⟨rfl, rfl⟩
section
variable {P : Program} {G : Nat -> AV} {S S' : FuncId -> Entry} {N h0 : Nat}
theorem I6 {code : Code} {st : ASt} {Q : Exit -> ASt -> Prop} (h : AW ⟨P, S, G⟩ N h0 code st Q) : AW ⟨P, S', G⟩ N h0 code st Q := h
end
def wC (r : AV) (o : Option (Prop × AV)) : Prop := match o with | some (ob, v) => ob /\ v = r | none => False
@[simp] theorem KB (r v : AV) (ob : Prop) : wC r (some (ob, v)) = (ob /\ v = r) := rfl
def kS (C : Ctx) (N h0 : Nat) (rs : List ResultVar) (r : AV) (H' : List Blk) (st : ASt) : Prop := ∃ st', Weak C N h0 st st' /\ st'.H = H' /\ wC r (bR C st' rs)
def Bd (C : Ctx) (N h0 : Nat) (rs : List ResultVar) (r : AV) (H' : List Blk) : Exit -> ASt -> Prop
 | .normal, st => kS C N h0 rs r H' st
 | .ret, st => kS C N h0 rs r H' st
 | _, _ => False
@[congr] theorem MG {C : Ctx} {N h0 : Nat} {rs : List ResultVar} {r : AV} {H' : List Blk} {ex ex' : Exit} {st st' : ASt} (h : eH ex = ex') (h' : st = st') : Bd C N h0 rs r H' ex st = Bd C N h0 rs r H' ex' st' := by rw [bK] at h; rw [h, h']
@[simp] theorem Iw (C : Ctx) (N h0 : Nat) (rs : List ResultVar) (r : AV) (H' : List Blk) (st : ASt) : Bd C N h0 rs r H' .normal st = kS C N h0 rs r H' st := rfl
@[simp] theorem NU (C : Ctx) (N h0 : Nat) (rs : List ResultVar) (r : AV) (H' : List Blk) (st : ASt) : Bd C N h0 rs r H' .ret st = kS C N h0 rs r H' st := rfl
theorem bf {C : Ctx} {N h0 : Nat} {rs : List ResultVar} {r : AV} {H' : List Blk} {st : ASt} (h : st.H = H') (h2 : wC r (bR C st rs)) : kS C N h0 rs r H' st := ⟨st, Weak.refl st, h, h2⟩
theorem Dd {C : Ctx} {N h0 : Nat} {H' : List Blk} {st : ASt} (ρ : List (Nat × AV)) (h : Weak C N h0 st ⟨ρ, H'⟩) : kS C N h0 [] (.tup []) H' st := ⟨_, h, rfl, trivial, rfl⟩
theorem Be {C : Ctx} {N h0 : Nat} {H H' : List Blk} {ρ : List (Nat × AV)} (hd : vG h0 H (.tup []) H') : kS C N h0 [] (.tup []) H' ⟨ρ, H⟩ := by
 obtain ⟨m, h1, h2, _, h4⟩ := hd
 subst h2
 exact Dd [] ((ar (ρ' := []) (λ p hp => by cases hp)).trans (jB m h1 (λ p hp => by cases hp) h4))
theorem cP {C : Ctx} {f : FuncId} {fn : Func} {body : Code} {rs : List ResultVar} {n : Nat} (hf : C.P.funcs[f]? = some fn) (hb : fn.body = some body) (hrs : fn.results.toList = rs) (hn : fn.ntmps = n) {A : List AV} {H : List Blk} {r : AV} {H' : List Blk} (hl : A.length <= n)
  (h : AW C n H.length body ⟨argsρ 0 A, H⟩ (Bd C n H.length rs r H')) : aK C.P C.G f A H r H' := by
 subst hrs hn
 intro w X β H1 args avs ob r1 H1' R hG hsz harg hp hob
 unfold kT at hp
 simp only [Option.some.injEq, Prod.mk.injEq] at hp
 obtain ⟨rfl, rfl, rfl⟩ := hp
 obtain ⟨rfl, rfl⟩ := hob
 refine calls_of_wp hf hb ?_
 have hr : Rel C fn.ntmps X w β H1 ⟨argsρ 0 avs, H1⟩ { tmps := args ++ Array.replicate (fn.ntmps - args.size) undef, defers := [] } w :=
  ⟨β, R, StepR.refl _ _ _ R.len, ed hsz harg, hG, by simp; omega, rfl⟩
 refine Code.wp_mono (λ ex a' w' ⟨st1, hq, hr1⟩ => ?_) (h X w β H1 _ w rfl hr)
 have fin : kS C fn.ntmps H1.length fn.results.toList r H' st1 -> bodyPost C.P fn (λ e w' => ∃ v β', e = .returned v /\ HRel w' X β' H' /\ StepR w β H1 w' β' H' /\ Rep w' (Mu X β' H') β' H' v r) .normal a' w' := by
  rintro ⟨st', hw, rfl, hok⟩
  unfold wC at hok
  split at hok
  ·rename_i ob' v hres
   obtain ⟨hob', rfl⟩ := hok
   obtain ⟨β', R', S', T', G', hN', hdef'⟩ := hw X w β H1 a' w' rfl hr1
   obtain ⟨u, hu, hrep⟩ := ck R' T' hres hob'
   exact ⟨hdef', u, hu, u, β', rfl, R', S', hrep⟩
  ·exact hok.elim
 cases ex with
 | normal => exact fin hq
 | ret => exact fin hq
 | _ => exact hq.elim
theorem jQ {C : Ctx} {f : FuncId} {fn : Func} {body : Code} {rs : List ResultVar} {n : Nat} (hf : C.P.funcs[f]? = some fn) (hb : fn.body = some body) (hrs : fn.results.toList = rs) (hn : fn.ntmps = n) {A : List AV} {H : List Blk} {r : AV} {H' : List Blk} (hl : A.length <= n)
  (h : AW C n H.length body ⟨argsρ 0 A, H⟩ (Gg C rs H.length r H')) : aK C.P C.G f A H r H' := by
 subst hrs hn
 intro w X β H1 args avs ob r1 H1' R hG hsz harg hp hob
 unfold kT at hp
 simp only [Option.some.injEq, Prod.mk.injEq] at hp
 obtain ⟨rfl, rfl, rfl⟩ := hp
 obtain ⟨rfl, rfl⟩ := hob
 refine calls_of_wp hf hb ?_
 have hr : Rel C fn.ntmps X w β H1 ⟨argsρ 0 avs, H1⟩ { tmps := args ++ Array.replicate (fn.ntmps - args.size) undef, defers := [] } w :=
  ⟨β, R, StepR.refl _ _ _ R.len, ed hsz harg, hG, by simp; omega, rfl⟩
 refine Code.wp_mono (λ ex a' w' ⟨st1, hq, hr1⟩ => ?_) (h X w β H1 _ w rfl hr)
 obtain ⟨β', R', S', T', G', hN', hdef'⟩ := hr1
 have fin : rM H1.length st1.H r H' (bR C st1 fn.results.toList) -> bodyPost C.P fn (λ e w' => ∃ v β', e = .returned v /\ HRel w' X β' H' /\ StepR w β H1 w' β' H' /\ Rep w' (Mu X β' H') β' H' v r) .normal a' w' := by
  intro hk
  unfold rM at hk
  split at hk
  ·rename_i ob' r' hres
   obtain ⟨hob', rfl, hdr⟩ := hk
   obtain ⟨u, hu, hrep⟩ := ck R' T' hres hob'
   obtain ⟨β2, R2, S2, T2⟩ := DV (C := C) R' S' G' hrep hdr
   exact ⟨hdef', u, hu, u, β2, rfl, R2, S2, T2⟩
  ·exact hk.elim
 cases ex with
 | normal => exact fin hq
 | ret => exact fin hq
 | _ => exact hq.elim
section
variable {C : Ctx} {N h0 : Nat}
def AWn (C : Ctx) (N h0 : Nat) (body : Code) (Q : Exit -> ASt -> Prop) : Nat -> ASt -> Prop
 | 0, _ => False
 | n + 1, st => AW C N h0 body st λ ex st' => match ex with | .normal => AWn C N h0 body Q n st' | e => Q e st'
theorem bG (n : Nat) {body : Code} {st : ASt} {Q : Exit -> ASt -> Prop} (h : AWn C N h0 body Q n st) : AW C N h0 (.loop body) st Q := λ X w0 β0 H0 a w hl hr => by
 refine wp_loop_ghost (λ k a w => ∃ st, AWn C N h0 body Q k st /\ Rel C N X w0 β0 H0 st a w) n ⟨st, h, hr⟩ ?_
 rintro k a w ⟨st, hk, hr⟩
 cases k with
 | zero => exact hk.elim
 | succ k =>
  refine Code.wp_mono (λ ex a' w' ⟨st', hq, hr'⟩ => ?_) (hk X w0 β0 H0 a w hl hr)
  cases ex with
  | normal => exact ⟨k, Nat.lt_succ_self k, st', hq, hr'⟩
  | _ => exact ⟨st', hq, hr'⟩
def rdN (C : Ctx) (N h0 : Nat) (body : Code) (Q : Exit -> ASt -> Prop) (n : Nat) : Exit -> ASt -> Prop
 | .normal, st' => AWn C N h0 body Q n st'
 | e, st' => Q e st'
@[congr] theorem Od {body : Code} {Q : Exit -> ASt -> Prop} {n : Nat} {ex ex' : Exit} {st st' : ASt} (h : eH ex = ex') (h' : st = st') : rdN C N h0 body Q n ex st = rdN C N h0 body Q n ex' st' := by rw [bK] at h; rw [h, h']
@[simp] theorem KR (body : Code) (Q : Exit -> ASt -> Prop) (n : Nat) (st' : ASt) : rdN C N h0 body Q n .normal st' = AWn C N h0 body Q n st' := rfl
@[simp] theorem PH (body : Code) (Q : Exit -> ASt -> Prop) (n : Nat) (st' : ASt) : rdN C N h0 body Q n .ret st' = Q .ret st' := rfl
@[simp] theorem OM (body : Code) (Q : Exit -> ASt -> Prop) (n i : Nat) (st' : ASt) : rdN C N h0 body Q n (.exit i) st' = Q (.exit i) st' := rfl
theorem aJ (hS : aB C) (hM : C.P.follows .mixedOrders = true) (hd : List Nat) {body : Code} {st : ASt} {Q : Exit -> ASt -> Prop} {n : Nat} (hok : cE C hd N body = true) (h : du C hd N h0 body st (rdN C N h0 body Q n)) : AWn C N h0 body Q (n + 1) st :=
 (ay hS hM body hok h).mono λ ex st' hq => by cases ex <;> exact hq
end
set_option linter.unusedSectionVars false
def Can {α : Type} [Inhabited α] (N : Nat) (f : Nat -> α) : Prop := ∀ k, N <= k -> f k = default
def bS {α : Type} [Enc α] (e : TypeId) (N : Nat) (f : Nat -> α) : Blk := ⟨e, Enc.sz α, aq (lst N f), true, true⟩
def Fg {α : Type} [Enc α] (rows : List (List AV)) : List α := rows.map Enc.unc
@[simp] theorem ky {α : Type} [Enc α] (l : List α) : (Fg (aq l) : List α) = l := by simp [Fg, aq, Function.comp_def, Enc.unc_cells]
def unF {α : Type} [Enc α] [Inhabited α] (rows : List (List AV)) : Nat -> α := λ k => (Fg rows).getD k default
section
variable {α : Type} [Enc α] [Inhabited α] {e N : Nat} {f g : Nat -> α}
theorem Dw {i : Nat} (h : i < N) : (lst N f)[i]? = some (f i) := by simp [lst, h]
theorem HL (h : Can N f) : unF (aq (lst N f)) = f := by
 funext k
 unfold unF
 rw [ky, getD_eq_getElem?_getD]
 by_cases hk : k < N
 ·rw [Dw hk]; rfl
 ·rw [List.getElem?_eq_none (by simp [lst]; omega), h k (by omega)]; rfl
theorem jR (l : List α) : Can l.length (λ k => l.getD k default) := λ k hk => by
 simp only [getD_eq_getElem?_getD, List.getElem?_eq_none hk]; rfl
theorem og (l : List α) : bS e l.length (λ k => l.getD k default) = ⟨e, Enc.sz α, aq l, true, true⟩ := by
 unfold bS; rw [zO]
theorem aC {k : Nat} (h : k < N) : dq (aq (lst N f)) k = Enc.cells (f k) := by
 unfold dq aq
 rw [getD_eq_getElem?_getD, List.getElem?_map, Dw h]; rfl
theorem D6 : (aq (lst N f)).length = N := by simp [aq, lst]
def upF (f : Nat -> α) (i : Nat) (x : α) : Nat -> α := λ k => if k = i then x else f k
theorem ul {i : Nat} (x : α) : (aq (lst N f)).set i (Enc.cells x) = aq (lst N (upF f i x)) := by
 apply List.ext_getElem?
 intro k
 rw [List.getElem?_set]
 unfold aq
 simp only [List.getElem?_map, length_map, lst, List.length_range, List.getElem?_range]
 by_cases hk : i = k
 ·subst hk
  by_cases hn : i < N
  ·simp [hn, upF]
  ·simp [hn]
 ·rw [if_neg hk]
  by_cases hn : k < N
  ·simp [hn, upF, show ¬ k = i from λ h => hk h.symm]
  ·simp [hn]
theorem jy {i j : Nat} : upF (upF f i (f j)) j (f i) = swp f j i := by
 funext k
 unfold upF swp
 by_cases h1 : k = j <;> by_cases h2 : k = i <;> simp [h1, h2]
theorem uz {i j : Nat} (h : Can N f) (hi : i < N) (hj : j < N) : Can N (swp f i j) := λ k hk => by
 unfold swp
 rw [if_neg (by omega), if_neg (by omega)]
 exact h k hk
theorem Mv.can {a b : Nat} (m : Mv f g a b) (hb : b <= N) (h : Can N f) : Can N g := λ k hk => by rw [m.out k (.inr (by omega))]; exact h k hk
end
def j9 : List AV -> List Int
 | [] => []
 | .int _ k :: r => k :: j9 r
 | _ :: r => j9 r
def bj (α : Type) [Enc α] [Inhabited α] (e : TypeId) (F : FuncId) (cap : List AV) (good : α -> Prop) (pre : List Int -> Nat -> Prop) (T : List Int -> Nat -> (Nat -> α) -> (Nat -> α)) : List AV -> List Blk -> Option (Prop × AV × List Blk) := λ args H =>
 match args with
 | .own l n :: r => match H[l]? with
  | some b => if b.mu = true /\ b.deep = true /\ b.e = e /\ b.sz = Enc.sz α then
    some (b.rows = aq (lst n (unF b.rows : Nat -> α)) /\ n <= 1000000 /\ (∀ k, k < n -> good (unF b.rows k)) /\ r = (j9 r).map (AV.int .i64) ++ [.fn F cap] /\ pre (j9 r) n, .tup [], H.set l (bS e n (T (j9 r) n (unF b.rows : Nat -> α))))
   else none
  | none => none
 | _ => none
theorem wj (is : List Int) (F : FuncId) (cap : List AV) : j9 (is.map (AV.int .i64) ++ [.fn F cap]) = is := by
 induction is with
 | nil => rfl
 | cons a r ih => simp only [List.map_cons, List.cons_append, j9, ih]
section
variable {α : Type} [Enc α] [Inhabited α] {e : TypeId} {F : FuncId} {cap : List AV} {good : α -> Prop} {pre : List Int -> Nat -> Prop} {T : List Int -> Nat -> (Nat -> α) -> (Nat -> α)} {H : List Blk} {l N : Nat} {f : Nat -> α}
theorem om (hl : H[l]? = some (bS e N f)) (hc : Can N f) (is : List Int) : bj α e F cap good pre T (.own l N :: (is.map (AV.int .i64) ++ [.fn F cap])) H = some (N <= 1000000 /\ (∀ k, k < N -> good (f k)) /\ pre is N, .tup [], H.set l (bS e N (T is N f))) := by
 unfold bj
 simp only [hl, bS, wj, HL hc, true_and, and_self, if_true]
theorem x5 (hl : H[l]? = some (bS e N f)) (hc : Can N f) (a : Int) : bj α e F cap good pre T [.own l N, .int .i64 a, .fn F cap] H = some (N <= 1000000 /\ (∀ k, k < N -> good (f k)) /\ pre [a] N, .tup [], H.set l (bS e N (T [a] N f))) := om hl hc [a]
theorem x6 (hl : H[l]? = some (bS e N f)) (hc : Can N f) (a b : Int) : bj α e F cap good pre T [.own l N, .int .i64 a, .int .i64 b, .fn F cap] H = some (N <= 1000000 /\ (∀ k, k < N -> good (f k)) /\ pre [a, b] N, .tup [], H.set l (bS e N (T [a, b] N f))) := om hl hc [a, b]
theorem j0 (hl : H[l]? = some (bS e N f)) (hc : Can N f) (a b c : Int) : bj α e F cap good pre T [.own l N, .int .i64 a, .int .i64 b, .int .i64 c, .fn F cap] H = some (N <= 1000000 /\ (∀ k, k < N -> good (f k)) /\ pre [a, b, c] N, .tup [], H.set l (bS e N (T [a, b, c] N f))) := om hl hc [a, b, c]
theorem tD (hl : H[l]? = some (bS e N f)) (hc : Can N f) : bj α e F cap good pre T [.own l N, .fn F cap] H = some (N <= 1000000 /\ (∀ k, k < N -> good (f k)) /\ pre [] N, .tup [], H.set l (bS e N (T [] N f))) := om hl hc []
theorem EE {b : Blk} (hl : H[l]? = some b) : H.set l b = H := by
 apply List.ext_getElem?
 intro k
 rw [List.getElem?_set]
 split
 ·rename_i h; subst h; rw [if_pos (List.getElem?_eq_some_iff.1 hl).1, hl]
 ·rfl
theorem c9 {P : Program} {G : Nat -> AV} {fn : FuncId} (h : ∀ (H : List Blk) (l N : Nat) (f : Nat -> α) (is : List Int), l < H.length -> Can N f -> N <= 1000000 -> (∀ k, k < N -> good (f k)) -> pre is N ->
   aK P G fn (.own l N :: (is.map (AV.int .i64) ++ [.fn F cap])) (H.set l (bS e N f)) (.tup []) (H.set l (bS e N (T is N f)))) : bg P G fn (bj α e F cap good pre T) := by
 refine jh λ A H ob r H' hg hob => ?_
 unfold bj at hg
 split at hg
 case h_2 => cases hg
 rename_i l n r'
 split at hg
 case h_2 => cases hg
 rename_i b hb
 split at hg
 case isFalse => cases hg
 rename_i hc
 obtain ⟨h1, h2, h3, h4⟩ := hc
 simp only [Option.some.injEq, Prod.mk.injEq] at hg
 obtain ⟨rfl, rfl, rfl⟩ := hg
 obtain ⟨o1, o2, o3, o4, o5⟩ := hob
 have hb' : b = bS e n (unF b.rows : Nat -> α) := by
  obtain ⟨be, bs, br, bm, bd⟩ := b
  simp only at h1 h2 h3 h4 o1 ⊢
  subst h1 h2 h3 h4
  unfold bS
  rw [<- o1]
 have hn : (Fg b.rows : List α).length = n := by
  have := congrArg List.length o1
  rw [D6] at this
  unfold Fg; rw [length_map]; exact this
 have hcan : Can n (unF b.rows : Nat -> α) := by
  rw [<- hn]; exact jR _
 have := h H l n (unF b.rows) (j9 r') (List.getElem?_eq_some_iff.1 hb).1 hcan o2 o3 o5
 rw [<- o4, <- hb', EE hb] at this
 exact this
theorem fl {b : Blk} (h : l < H.length) : (H.set l b)[l]? = some b := List.getElem?_set_self h
end
@[simp] theorem W0 {α : Type} [Enc α] (e : TypeId) (N : Nat) (f : Nat -> α) : bS e N f = ⟨e, Enc.sz α, aq (lst N f), true, true⟩ := rfl
theorem qD {α : Type} (f : Nat -> α) {a b i : Nat} (h : a + i < b) : swp (swr f a b i) (b + i) (a + i) = swr f a b (i + 1) := by
 funext k
 simp only [swp, swr]
 repeat' split
 all_goals first | (exfalso; omega) | rfl | (congr 1; omega)
theorem qE {α : Type} (f : Nat -> α) (a b : Nat) : swr f a b 0 = f := by
 funext k
 unfold swr
 rw [if_neg (by omega), if_neg (by omega)]
theorem qC {α : Type} (f : Nat -> α) {a b : Nat} : ∀ {n : Nat}, a + n <= b -> Mv f (swr f a b n) a (b + n)
 | 0, _ => by rw [qE]; exact Mv.refl _ _ _
 | n + 1, h => by
  rw [<- qD f (by omega)]
  exact ((qC f (n := n) (by omega)).wide (le_refl _) (by omega)).trans (qz (by omega) (by omega))
def orF : List Int -> Int
 | [] => 0
 | a :: r => if a ≠ 0 then a else orF r
theorem Ad : ∀ {l : List Int} {i : Nat}, (∀ j, j < i -> ix l j = 0) -> i < l.length -> ix l i ≠ 0 -> orF l = ix l i
 | [], i, _, h, _ => by simp at h
 | a :: r, 0, _, _, h => by
  have : a ≠ 0 := h
  unfold orF; rw [if_pos this]; rfl
 | a :: r, i + 1, h0, h1, h2 => by
  have : a = 0 := h0 0 (by omega)
  unfold orF
  rw [if_neg (by simpa using this)]
  exact Ad (l := r) (i := i) (λ j hj => h0 (j + 1) (by omega)) (by simpa using h1) h2
theorem wD : ∀ {l : List Int}, (∀ j, j < l.length -> ix l j = 0) -> orF l = 0
 | [], _ => rfl
 | a :: r, h => by
  have : a = 0 := h 0 (by simp)
  unfold orF
  rw [if_neg (by simpa using this)]
  exact wD (l := r) λ j hj => h (j + 1) (by simpa using hj)
def sOr : PSp := aN (λ (l : List Int) => l.length <= 100) (λ l => .int .i64 (orF l))
theorem orP : PureOK prog G0 257 sOr := by
 refine ci aR mixed func257 rfl rfl rfl (by kernel_rfl) (by decide) (λ l hl => ?_)
 simp [ac, ag, ae, am, ap, aa, au, ab, ao, ak, ah, ai, aj]
 refine aT aR mixed (λ i : Nat => ⟨[(3, .int .i64 0), (6, Enc.enc l), (7, .int .i64 l.length), (8, .int .i64 i)], []⟩) (λ i => i <= l.length /\ ∀ j, j < i -> ix l j = 0) (λ i => l.length - i) (by kernel_rfl) ⟨0, ⟨by omega, λ j hj => by omega⟩, ar (by simp)⟩ ?_
 rintro i ⟨hi, hall⟩
 by_cases hlt : i < l.length
 ·have i1 : I64 ((i : Int) + 1) := by unfold I64; omega
  by_cases h : ix l i = 0
  ·simp [ac, ag, ae, am, ap, aa, au, ab, ao, ak, ah, ai, aj, hlt, aw hlt, h, i1]
   refine ⟨i + 1, ⟨by omega, λ j hj => ?_⟩, by omega, ar (by simp)⟩
   rcases lt_or_ge j i with h' | h'
   ·exact hall j h'
   ·rw [show j = i by omega]; exact h
  ·have e := Ad hall hlt h
   simp [ac, ag, ae, am, ap, aa, au, ab, ao, ak, ah, ai, aj, hlt, aw hlt, h, e]
 ·have e : orF l = 0 := wD λ j hj => hall j (by omega)
  simp [ac, ag, ae, am, ap, aa, au, ab, ao, ak, ah, ai, aj, hlt, e]
def Ar : PSp := aN (λ (_ : ByteArray) => True) (λ _ => .bool false)
theorem Oj : PureOK prog G0 283 Ar := by
 refine ci aR mixed func283 rfl rfl rfl (by kernel_rfl) (by decide) (λ x _ => ?_)
 simp [ac, ag, ae, am, ap, aa, au, ab, ao, ak, ah, ai, aj]
noncomputable def CYn : Ctx := mkC prog G0 [(283, .pure Ar)]
@[simp] theorem We : CYn.P = prog := rfl
@[simp] theorem Wd : CYn.G = G0 := rfl
@[simp] theorem Wc : CYn.S 283 = .pure Ar := rfl
theorem LD : aB CYn := aH (Oj) func283 (ax _ _)
def sE : PSp := aW (λ (a b : ByteArray) => a = ⟨#[]⟩ /\ b = ⟨#[]⟩) (λ _ _ => .int .i64 0)
theorem Im : PureOK prog G0 216 sE := by
 refine db LD mixed func216 rfl rfl rfl (by kernel_rfl) (by decide) (λ a b ⟨h1, h2⟩ => ?_)
 subst h1 h2
 have e : Op.bytesLess [] [] = false := by simp [Op.bytesLess]
 simp [ac, ag, ae, am, ap, aa, au, ab, ao, ak, ah, ai, aj, Ar, e]
def OkN (k x : Int) : Prop := (k = 5 /\ 1 <= x /\ x <= 1000000) ∨ (k = 2 /\ InR x)
theorem DK {x : Int} (h1 : 1 <= x) (h2 : x <= 1000000) : eW (vOf 5 x) 8 = true := by
 rw [pW]
 simp [vOf, bx, h1, h2]
def rr (v : Val) : Prop := ∃ k x, OkN k x /\ v = vOf k x
def Eb : PSp := aN rr (λ v => .int .i64 v.kind)
theorem Rq : PureOK prog G0 331 Eb := by
 refine ci aR mixed func331 rfl rfl rfl (by kernel_rfl) (by decide) (λ v ⟨k, x, hk, hv⟩ => ?_)
 subst hv
 rcases hk with ⟨rfl, _⟩ | ⟨rfl, _⟩ <;> simp [ac, ag, ae, am, ap, aa, au, ab, ao, ak, ah, ai, aj, vOf]
def BO : PSp := eV (λ (l m : List Val) (_ : FnV 256) => l = [] /\ m = []) (λ _ _ _ => .int .i64 0)
theorem Nv : PureOK prog G0 258 BO := by
 refine wJ aR mixed func258 rfl rfl rfl (by kernel_rfl) (by decide) (λ l m f ⟨h1, h2⟩ => ?_)
 subst h1 h2
 simp [ac, ag, ae, am, ap, aa, au, ab, ao, ak, ah, ai, aj]
 refine aT aR mixed (λ i : Nat => ⟨[(0, Enc.enc ([] : List Val)), (1, Enc.enc ([] : List Val)), (12, .int .i64 0), (13, .int .i64 0)], []⟩) (λ i => True) (λ i => i) (by kernel_rfl) ⟨0, trivial, ar (by simp)⟩ ?_
 intro i _
 simp [ac, ag, ae, am, ap, aa, au, ab, ao, ak, ah, ai, aj]
noncomputable def CYd : Ctx := mkC prog G0 [(257, .pure sOr), (216, .pure sE), (108, .pure iT), (331, .pure Eb), (243, .pure nM), (332, .pure Al), (258, .pure BO)]
@[simp] theorem VZ : CYd.P = prog := rfl
@[simp] theorem VY : CYd.G = G0 := rfl
@[simp] theorem VX : CYd.S 257 = .pure sOr /\ CYd.S 216 = .pure sE /\ CYd.S 108 = .pure iT /\ CYd.S 331 = .pure Eb /\ CYd.S 243 = .pure nM /\ CYd.S 332 = .pure Al /\ CYd.S 258 = .pure BO := ⟨rfl, rfl, rfl, rfl, rfl, rfl, rfl⟩
theorem LC : aB CYd := aH (orP) func257 (aH (Im) func216 (aH (zw) func108 (aH (Rq) func331 (aH (Ac) func243 (aH (Rr) func332 (aH (Nv) func258 (ax _ _)))))))
theorem EF (x y : Int) : sgn (x - y) = dx x y := by unfold sgn dx; split <;> split <;> (try split) <;> omega
theorem CO {x y : Int} (hx : InR x) (hy : InR y) : CM ⟨x, 1⟩ ⟨y, 1⟩ = dx x y := by
 have v : ∀ {z : Int}, InR z -> rb ⟨z, 1⟩ = ⟨z, 1⟩ := λ {z} hz => by
  unfold rb
  exact if_pos ⟨(by decide : (1 : Int) <= 1), (by decide : (1 : Int) <= 1000000000000000), hz, by simp⟩
 unfold CM
 rw [v hx, v hy]
 simp only [Int.mul_one]
 exact EF x y
def Cn (a b : Val) : Prop := ∃ k x y, OkN k x /\ OkN k y /\ a = vOf k x /\ b = vOf k y
def gb : PSp := aW Cn (λ a b => .int .i64 (dx a.n b.n))
theorem OC : PureOK prog G0 256 gb := by
 refine db LC mixed func256 rfl rfl rfl (by kernel_rfl) (by decide) (λ a b ⟨k, x, y, hx, hy, ha, hb⟩ => ?_)
 subst ha hb
 have p1 : rr (vOf k x) := ⟨k, x, hx, rfl⟩
 have p2 : rr (vOf k y) := ⟨k, y, hy, rfl⟩
 have cz : dx k k = 0 := cmp3_zero.2 rfl
 have oz : orF [0, dx x y, 0] = dx x y := by
  by_cases h : dx x y = 0 <;> simp [orF, h]
 rcases hx with ⟨rfl, h1, h2⟩ | ⟨rfl, h1⟩
 ·simp [vOf] at p1 p2
  simp [ac, ag, ae, am, ap, aa, au, ab, ao, ak, ah, ai, aj, vOf, Eb, p1, p2, iT, cz, sE, BO, sOr, oz]
 ·have h2 : InR y := by rcases hy with ⟨h, _⟩ | ⟨_, h⟩; exact absurd h (by decide); exact h
  have n1 : ∃ n, InR n /\ vOf 2 x = vOf 2 n := ⟨x, h1, rfl⟩
  have n2 : ∃ n, InR n /\ vOf 2 y = vOf 2 n := ⟨y, h2, rfl⟩
  have e := CO h1 h2
  simp [vOf] at p1 p2 n1 n2
  simp [ac, ag, ae, am, ap, aa, au, ab, ao, ak, ah, ai, aj, vOf, Eb, p1, p2, iT, cz, nM, n1, n2, h1, h2, Al, e]
def Hw : PSp := aN rr (λ _ => .bool true)
theorem vLP : PureOK prog G0 169 Hw := by
 refine ci EQ mixed func169 rfl rfl rfl (by kernel_rfl) (by decide) (λ v ⟨k, x, hk, hv⟩ => ?_)
 subst hv
 have hw := kB k x
 have hok : eW (vOf k x) 8 = true := by
  rcases hk with ⟨rfl, h1, h2⟩ | ⟨rfl, h1⟩
  ·exact DK h1 h2
  ·exact oF h1
 have hs : jD k := by
  unfold jD
  rcases hk with ⟨rfl, _⟩ | ⟨rfl, _⟩ <;> simp
 simp [vOf] at hw hok
 simp [ac, ag, ae, am, ap, aa, au, ab, ao, ak, ah, ai, aj, vOf, sVP, hw, hs, hok]
noncomputable def CYv : Ctx := mkC prog G0 [(169, .pure Hw), (256, .pure gb), (257, .pure sOr), (216, .pure sE), (108, .pure iT), (258, .pure BO)]
@[simp] theorem Wr : CYv.P = prog := rfl
@[simp] theorem Wq : CYv.G = G0 := rfl
@[simp] theorem Wp : CYv.S 169 = .pure Hw /\ CYv.S 256 = .pure gb /\ CYv.S 257 = .pure sOr /\ CYv.S 216 = .pure sE /\ CYv.S 108 = .pure iT /\ CYv.S 258 = .pure BO := ⟨rfl, rfl, rfl, rfl, rfl, rfl⟩
theorem LE : aB CYv := aH (vLP) func169 (aH (OC) func256 (aH (orP) func257 (aH (Im) func216 (aH (zw) func108 (aH (Nv) func258 (ax _ _))))))
theorem KF : PureOK prog G0 187 gb := by
 refine db LE mixed func187 rfl rfl rfl (by kernel_rfl) (by decide) (λ a b hab => ?_)
 have hab' := hab
 obtain ⟨k, x, y, hx, hy, ha, hb⟩ := hab
 have p1 : rr a := ⟨k, x, hx, ha⟩
 have p2 : rr b := ⟨k, y, hy, hb⟩
 simp [ac, ag, ae, am, ap, aa, au, ab, ao, ak, ah, ai, aj, Hw, p1, p2, gb, hab']
structure IR (k : Int) where
 l : List Int
instance (k : Int) : Inhabited (IR k) := ⟨⟨[]⟩⟩
def cC (k : Int) (l : List Int) : List Val := l.map (vOf k)
theorem kz (k : Int) (l : List Int) : (cC k l).length = l.length := by simp [cC]
theorem Fj (k : Int) (l : List Int) : (cC k l).map Val.n = l := by simp [cC, Function.comp_def, vOf]
instance (k : Int) : Enc (IR k) where
 sz := 1
 cells r := [.slice 5 false (aq (cC k r.l))]
 enc r := .slice 5 false (aq (cC k r.l))
 unc c := match c with | [.slice _ _ rows] => ⟨(rows.map Enc.unc : List Val).map Val.n⟩ | _ => ⟨[]⟩
 dec v := match v with | .slice _ _ rows => ⟨(rows.map Enc.unc : List Val).map Val.n⟩ | _ => ⟨[]⟩
 unc_cells r := by
  show (⟨((aq (cC k r.l)).map Enc.unc : List Val).map Val.n⟩ : IR k) = r
  have : ((aq (cC k r.l)).map Enc.unc : List Val) = cC k r.l := ky _
  rw [this, Fj]
 dec_enc r := by
  show (⟨((aq (cC k r.l)).map Enc.unc : List Val).map Val.n⟩ : IR k) = r
  have : ((aq (cC k r.l)).map Enc.unc : List Val) = cC k r.l := ky _
  rw [this, Fj]
@[simp] theorem RE {k : Int} (r : IR k) : Enc.enc r = .slice 5 false (aq (cC k r.l)) := rfl
@[simp] theorem RK {k : Int} (r : IR k) : (⟨r.l⟩ : IR k) = r := rfl
@[simp] theorem Nt {k : Int} (r : IR k) : Enc.cells r = [.slice 5 false (aq (cC k r.l))] := rfl
@[simp] theorem xY {k : Int} (l : List Int) (z : Nat) (b : Bool) : (Enc.dec (.slice z b (aq (cC k l))) : IR k) = ⟨l⟩ := Enc.dec_enc (⟨l⟩ : IR k)
def gdR {k : Int} (r : IR k) : Prop := r.l.length <= 1000 /\ ∀ x ∈ r.l, OkN k x
def cfR {k : Int} (a b : IR k) : Int := dl a.l b.l
theorem zx : ∀ {a b : List Int} {i : Nat}, (∀ j, j < i -> ix a j = ix b j) -> i <= a.length -> i <= b.length -> dl a b = dl (a.drop i) (b.drop i)
 | a, b, 0, _, _, _ => rfl
 | [], b, i + 1, _, h, _ => by simp at h
 | a :: r, [], i + 1, _, _, h => by simp at h
 | a :: r, b :: q, i + 1, h, h1, h2 => by
  have e : a = b := h 0 (by omega)
  subst e
  rw [dl, if_neg (by rw [cmp3_zero.2 rfl]; simp), List.drop_succ_cons, List.drop_succ_cons]
  exact zx (a := r) (b := q) (i := i) (λ j hj => h (j + 1) (by omega)) (by simpa using h1) (by simpa using h2)
theorem oi {l : List Int} {i : Nat} (h : i < l.length) : l.drop i = ix l i :: l.drop (i + 1) := by
 rw [bF h]; exact List.drop_eq_getElem_cons h
noncomputable def CYw : Ctx := mkC prog G0 [(187, .pure gb)]
@[simp] theorem Wu : CYw.P = prog := rfl
@[simp] theorem Wt : CYw.G = G0 := rfl
@[simp] theorem Ws : CYw.S 187 = .pure gb := rfl
theorem EV : aB CYw := aH (KF) func187 (ax _ _)
def Hb (k : Int) : PSp := eV (λ (a b : IR k) (_ : FnV 187) => gdR a /\ gdR b) (λ a b _ => .int .i64 (cfR a b))
theorem l3 {k : Int} {l : List Int} {i : Nat} (h : i < l.length) : ix (cC k l) i = vOf k (ix l i) := by
 rw [bF (by rw [kz]; exact h), bF h]; simp [cC]
theorem Rj (k : Int) : PureOK prog G0 186 (Hb k) := by
 refine wJ EV mixed func186 rfl rfl rfl (by kernel_rfl) (by decide) (λ ⟨a⟩ ⟨b⟩ f ⟨⟨h1, h2⟩, h3, h4⟩ => ?_)
 simp only at h1 h2 h3 h4
 have la := kz k a
 have lb := kz k b
 simp [ac, ag, ae, am, ap, aa, au, ab, ao, ak, ah, ai, aj, la]
 refine aT EV mixed (λ i : Nat => ⟨[(0, .slice 5 false (aq (cC k a))), (1, .slice 5 false (aq (cC k b))), (2, .fn 187 []), (11, .slice 5 false (aq (cC k a))), (12, .int .i64 a.length), (13, .int .i64 i)], []⟩) (λ i => i <= a.length /\ i <= b.length /\ ∀ j, j < i -> ix a j = ix b j) (λ i => a.length - i) (by kernel_rfl) ⟨0, ⟨by omega, by omega, λ j hj => by omega⟩, ar (by simp)⟩ ?_
 rintro i ⟨hi, hib, hall⟩
 have hgo := zx hall hi hib
 by_cases hlt : i < a.length
 ·have i1 : I64 ((i : Int) + 1) := by unfold I64; omega
  have hlv : i < (cC k a).length := by rw [la]; exact hlt
  by_cases hlb : i < b.length
  ·have hlvb : i < (cC k b).length := by rw [lb]; exact hlb
   have hnb : ¬ ((b.length : Int) <= i) := by omega
   have hnb' : ¬ (b.length <= i) := by omega
   rw [oi hlt, oi hlb, dl] at hgo
   have hl2 : Cn (vOf k (ix a i)) (vOf k (ix b i)) := ⟨k, _, _, h2 _ (bJ hlt), h4 _ (bJ hlb), rfl, rfl⟩
   simp [vOf] at hl2
   by_cases hz : dx (ix a i) (ix b i) = 0
   ·simp [ac, ag, ae, am, ap, aa, au, ab, ao, ak, ah, ai, aj, hlt, hlb, hlv, hlvb, la, lb, aw hlv, aw hlvb, l3 hlt, l3 hlb, hnb, hnb', gb, vOf, hl2, hz, i1]
    refine ⟨i + 1, ⟨by omega, by omega, λ j hj => ?_⟩, by omega, bH 0 (by simp) (by simp) (by simp [AV.clean, AV.clean1]) (by simp) (by simp)⟩
    rcases lt_or_ge j i with h' | h'
    ·exact hall j h'
    ·rw [show j = i by omega]; exact cmp3_zero.1 hz
   ·rw [if_pos hz] at hgo
    simp [ac, ag, ae, am, ap, aa, au, ab, ao, ak, ah, ai, aj, hlt, hlb, hlv, hlvb, la, lb, aw hlv, aw hlvb, l3 hlt, l3 hlb, hnb, hnb', gb, vOf, hl2, hz, cfR, hgo]
  ·have hnb : ((b.length : Int) <= i) := by omega
   have hnb' : (b.length <= i) := by omega
   have e : b.drop i = [] := List.drop_eq_nil_of_le (by omega)
   rw [oi hlt, e, dl] at hgo
   simp [ac, ag, ae, am, ap, aa, au, ab, ao, ak, ah, ai, aj, hlt, hlv, la, lb, aw hlv, l3 hlt, hnb, hnb', cfR, hgo]
 ·have e : a.drop i = [] := List.drop_eq_nil_of_le (by omega)
  by_cases hlb : i < b.length
  ·have h5 : (a.length : Int) < b.length := by omega
   have h5' : a.length < b.length := by omega
   rw [oi hlb, e, dl] at hgo
   simp [ac, ag, ae, am, ap, aa, au, ab, ao, ak, ah, ai, aj, hlt, la, lb, h5, h5', cfR, hgo]
  ·have h5 : ¬ (a.length : Int) < b.length := by omega
   have h5' : ¬ a.length < b.length := by omega
   have e2 : b.drop i = [] := List.drop_eq_nil_of_le (by omega)
   rw [e2, e, dl] at hgo
   simp [ac, ag, ae, am, ap, aa, au, ab, ao, ak, ah, ai, aj, hlt, la, lb, h5, h5', cfR, hgo]
def bE {α : Type} [Enc α] (e : TypeId) (l : List α) : Blk := ⟨e, Enc.sz α, aq l, true, true⟩
theorem Sp (s : Nat -> Nat) (x : Val) : (Enc.cells x).map (fK s) = Enc.cells x := by rw [fE]; rfl
theorem KD (m : Nat) (x : Val) : (Enc.cells x).all (AV.clean1 m) = true := by rw [fE]; rfl
theorem Sn (s : Nat -> Nat) (x : Prp) : (Enc.cells x).map (fK s) = Enc.cells x := rfl
theorem Sg (m : Nat) (x : Prp) : (Enc.cells x).all (AV.clean1 m) = true := rfl
theorem So (s : Nat -> Nat) (x : ByteArray) : (Enc.cells x).map (fK s) = Enc.cells x := rfl
theorem Sh (m : Nat) (x : ByteArray) : (Enc.cells x).all (AV.clean1 m) = true := rfl
@[simp] theorem W5 (s : Nat -> Nat) (l : List Val) : (aq l).map (λ r => r.map (fK s)) = aq l := p9 s (Sp s) l
@[simp] theorem W3 (s : Nat -> Nat) (l : List Prp) : (aq l).map (λ r => r.map (fK s)) = aq l := p9 s (Sn s) l
@[simp] theorem W4 (s : Nat -> Nat) (l : List ByteArray) : (aq l).map (λ r => r.map (fK s)) = aq l := p9 s (So s) l
def GG : List AV -> Option (Prop × AV × List Blk) := ki (λ (l : List Prp) => l.length <= 1000000) (λ l => .own 0 l.length) (λ l => [bE 88 l])
theorem clP : bg prog G0 404 (bY GG) := by
 refine Aa aR mixed func404 rfl rfl rfl [] (by kernel_rfl) (by decide) (λ _ => [0]) (λ _ => by decide) (λ l => ⟨rfl, by simp only [all_cons, all_nil, Bool.and_true, bE, okB]; exact l6 _ (Sg _) l⟩) (λ l hl => ?_)
 by_cases hz : l.length = 0
 ·have hA : l = [] := length_eq_zero_iff.1 hz
  subst hA
  simp [ac, ag, ae, am, ap, aa, au, ab, ao, ak, ah, ai, aj]
  refine ⟨mD 2 6 88 rfl (by decide) ?_, eh ?_⟩ <;> simp [ac, ag, ae, am, ap, aa, au, ab, ao, ak, ah, ai, aj, bE]
 ·have hz' : 0 < l.length := by omega
  simp [ac, ag, ae, am, ap, aa, au, ab, ao, ak, ah, ai, aj, hz, hz']
  refine ⟨by omega, eh ?_⟩
  simp [ac, ag, ae, am, ap, aa, au, ab, ao, ak, ah, ai, aj, bE]
def wt : List AV -> Option (Prop × AV × List Blk) := ki (λ (l : List Val) => l.length <= 1000000) (λ l => .own 0 l.length) (λ l => [bE 62 l])
theorem clV : bg prog G0 240 (bY wt) := by
 refine Aa aR mixed func240 rfl rfl rfl [] (by kernel_rfl) (by decide) (λ _ => [0]) (λ _ => by decide) (λ l => ⟨rfl, by simp only [all_cons, all_nil, Bool.and_true, bE, okB]; exact l6 _ (KD _) l⟩) (λ l hl => ?_)
 by_cases hz : l.length = 0
 ·have hA : l = [] := length_eq_zero_iff.1 hz
  subst hA
  simp [ac, ag, ae, am, ap, aa, au, ab, ao, ak, ah, ai, aj]
  refine ⟨mD 2 5 62 rfl (by decide) ?_, eh ?_⟩ <;> simp [ac, ag, ae, am, ap, aa, au, ab, ao, ak, ah, ai, aj, bE]
 ·have hz' : 0 < l.length := by omega
  simp [ac, ag, ae, am, ap, aa, au, ab, ao, ak, ah, ai, aj, hz, hz']
  refine ⟨by omega, eh ?_⟩
  simp [ac, ag, ae, am, ap, aa, au, ab, ao, ak, ah, ai, aj, bE]
def GH : List AV -> Option (Prop × AV × List Blk) := ki (λ (l : List Val) => l.length <= 1000000) (λ l => .own 0 l.length) (λ l => [bE 62 l])
theorem clW : bg prog G0 188 (bY GH) := by
 refine Aa aR mixed func188 rfl rfl rfl [] (by kernel_rfl) (by decide) (λ _ => [0]) (λ _ => by decide) (λ l => ⟨rfl, by simp only [all_cons, all_nil, Bool.and_true, bE, okB]; exact l6 _ (KD _) l⟩) (λ l hl => ?_)
 by_cases hz : l.length = 0
 ·have hA : l = [] := length_eq_zero_iff.1 hz
  subst hA
  simp [ac, ag, ae, am, ap, aa, au, ab, ao, ak, ah, ai, aj]
  refine ⟨mD 2 5 62 rfl (by decide) ?_, eh ?_⟩ <;> simp [ac, ag, ae, am, ap, aa, au, ab, ao, ak, ah, ai, aj, bE]
 ·have hz' : 0 < l.length := by omega
  simp [ac, ag, ae, am, ap, aa, au, ab, ao, ak, ah, ai, aj, hz, hz']
  refine ⟨by omega, eh ?_⟩
  simp [ac, ag, ae, am, ap, aa, au, ab, ao, ak, ah, ai, aj, bE]
def pS : List AV -> Option (Prop × AV × List Blk) := ki (λ (l : List ByteArray) => l.length <= 1000000) (λ l => .own 0 l.length) (λ l => [bE 9 l])
theorem clS : bg prog G0 111 (bY pS) := by
 refine Aa aR mixed func111 rfl rfl rfl [] (by kernel_rfl) (by decide) (λ _ => [0]) (λ _ => by decide) (λ l => ⟨rfl, by simp only [all_cons, all_nil, Bool.and_true, bE, okB]; exact l6 _ (Sh _) l⟩) (λ l hl => ?_)
 by_cases hz : l.length = 0
 ·have hA : l = [] := length_eq_zero_iff.1 hz
  subst hA
  simp [ac, ag, ae, am, ap, aa, au, ab, ao, ak, ah, ai, aj]
  refine ⟨mD 2 1 9 rfl (by decide) ?_, eh ?_⟩ <;> simp [ac, ag, ae, am, ap, aa, au, ab, ao, ak, ah, ai, aj, bE]
 ·have hz' : 0 < l.length := by omega
  simp [ac, ag, ae, am, ap, aa, au, ab, ao, ak, ah, ai, aj, hz, hz']
  refine ⟨by omega, eh ?_⟩
  simp [ac, ag, ae, am, ap, aa, au, ab, ao, ak, ah, ai, aj, bE]
noncomputable def CYk : Ctx := mkC prog G0 [(240, .gen (bY wt))]
@[simp] theorem V8 : CYk.P = prog := rfl
@[simp] theorem V7 : CYk.G = G0 := rfl
@[simp] theorem V6 : CYk.S 240 = .gen (bY wt) := rfl
theorem ut : aB CYk := aD (aF (clV) func240 rfl (by decide)) (ax _ _)
def ug : PSp := aN (λ (v : Val) => v.l = []) (λ v => Enc.enc v)
theorem NE : PureOK prog G0 402 ug := by
 refine jo ut mixed func402 rfl rfl rfl [5] (by kernel_rfl) (by decide) (λ v hv => ?_)
 simp [ac, ag, ae, am, ap, aa, au, ab, ao, ak, ah, ai, aj, hv, wt, bE]
 refine aA ut mixed [5] (λ i : Nat => ⟨[(1, .ptr 0 1 5 0 0), (2, .ptr 1 1 5 0 0), (10, .int .i64 0), (11, .int .i64 0)], [⟨62, 5, [[.int .i64 v.kind, .int .i64 v.n, .int .i64 v.d, .str v.s, .own 2 0]], true, false⟩, ⟨62, 5, [[.int .i64 0, .int .i64 0, .int .i64 0, .str ⟨#[]⟩, .slice 5 true []]], true, true⟩, ⟨62, 5, [], true, true⟩]⟩) (λ i => True) (λ i => i) (by kernel_rfl) ⟨0, trivial, ar (by simp)⟩ ?_
 intro i _
 simp [ac, ag, ae, am, ap, aa, au, ab, ao, ak, ah, ai, aj, hv]
def kW (ps : List Prp) : Prop := ps.length <= 1000000 /\ ∀ p ∈ ps, p.v.l = []
noncomputable def CYl : Ctx := mkC prog G0 [(404, .gen (bY GG)), (402, .pure ug)]
@[simp] theorem Wb : CYl.P = prog := rfl
@[simp] theorem Wa : CYl.G = G0 := rfl
@[simp] theorem V9 : CYl.S 404 = .gen (bY GG) /\ CYl.S 402 = .pure ug := ⟨rfl, rfl⟩
theorem ES : aB CYl := aD (aF (clP) func404 rfl (by decide)) (aH (NE) func402 (ax _ _))
theorem BW {ps : List Prp} {i : Nat} (h : i < ps.length) : (aq ps).set i [.str (ix ps i).key, .int .i64 (ix ps i).v.kind, .int .i64 (ix ps i).v.n, .int .i64 (ix ps i).v.d, .str (ix ps i).v.s, .slice 5 false (aq (ix ps i).v.l)] = aq ps := by
 rw [<- rF, jW, bF h, List.set_getElem_self]
def wY : PSp := aN kW (λ ps => Enc.enc ps)
theorem Rm : PureOK prog G0 362 wY := by
 refine jo ES mixed func362 rfl rfl rfl [] (by kernel_rfl) (by decide) (λ ps ⟨h0, hf⟩ => ?_)
 simp [ac, ag, ae, am, ap, aa, au, ab, ao, ak, ah, ai, aj, GG, bE]
 refine ⟨h0, ?_⟩
 refine aA ES mixed [] (λ i : Nat => ⟨[(3, .own 0 ps.length), (8, .int .i64 ps.length), (9, .int .i64 i)], [⟨88, 6, aq ps, true, true⟩]⟩) (λ i => i <= ps.length) (λ i => ps.length - i) (by kernel_rfl) ⟨0, by omega, ar (by simp)⟩ (λ i hi => ?_)
 by_cases hlt : i < ps.length
 ·have i1 : I64 ((i : Int) + 1) := by unfold I64; omega
  have hv := hf _ (bJ hlt)
  have hs := BW hlt
  simp only [hv] at hs
  rw [show aq ([] : List Val) = [] from rfl] at hs
  simp [ac, ag, ae, am, ap, aa, au, ab, ao, ak, ah, ai, aj, hlt, aw hlt, ug, hv, i1, hs]
  exact ⟨i + 1, by omega, by omega, ar (by simp)⟩
 ·simp [ac, ag, ae, am, ap, aa, au, ab, ao, ak, ah, ai, aj, hlt]
noncomputable def CYe : Ctx := mkC prog G0 [(362, .pure wY), (111, .gen (bY pS))]
@[simp] theorem V2 : CYe.P = prog := rfl
@[simp] theorem V1 : CYe.G = G0 := rfl
@[simp] theorem V0 : CYe.S 362 = .pure wY /\ CYe.S 111 = .gen (bY pS) := ⟨rfl, rfl⟩
theorem qt : aB CYe := aH (Rm) func362 (aD (aF (clS) func111 rfl (by decide)) (ax _ _))
def kp : PSp := aW (λ (g : Gra) (i : Int) => (∀ e ∈ g.edges, kW e.props) /\ g.edges.length <= 1000000 /\ ∃ e ∈ g.edges, e.id = i) (λ g i => .tup [Enc.enc ((g.edges.find? λ e => decide (e.id = i)).getD default), .bool true])
theorem zF {α : Type} [Inhabited α] {l : List α} {p : α -> Bool} {i : Nat} (h : i < l.length) (hp : p (ix l i) = true) (hn : ∀ j, j < i -> p (ix l j) = false) : (l.find? p).getD default = ix l i := by
 have : l.find? p = some (l[i]) := by
  rw [List.find?_eq_some_iff_getElem]
  refine ⟨by rw [<- bF h]; exact hp, i, h, rfl, λ j hj => ?_⟩
  have := hn j hj
  rw [bF (show j < l.length by omega)] at this
  simp [this]
 rw [this, bF h]; rfl
theorem Iu : PureOK prog G0 304 kp := by
 refine hZ qt mixed func304 rfl rfl rfl [] (by kernel_rfl) (by decide) (λ g n ⟨hf, hl, hex⟩ => ?_)
 simp [ac, ag, ae, am, ap, aa, au, ab, ao, ak, ah, ai, aj]
 refine aA qt mixed [] (λ i : Nat => ⟨[(1, .int .i64 n), (2, .ptr 0 1 4 0 0), (4, .ptr 1 1 5 0 0), (9, Enc.enc g.edges), (10, .int .i64 g.edges.length), (11, .int .i64 i)], [⟨25, 4, [[.slice 3 false (aq g.nodes), .slice 5 false (aq g.edges), .int .i64 g.nn, .int .i64 g.ne]], true, true⟩, ⟨51, 5, [[.int .i64 0, .int .i64 0, .int .i64 0, .str ⟨#[]⟩, .slice 6 true []]], true, true⟩]⟩) (λ i => i <= g.edges.length /\ ∀ j, j < i -> (ix g.edges j).id ≠ n) (λ i => g.edges.length - i) (by kernel_rfl) ⟨0, ⟨by omega, λ j hj => by omega⟩, ar (by simp)⟩ ?_
 rintro i ⟨hi, hall⟩
 by_cases hlt : i < g.edges.length
 ·have i1 : I64 ((i : Int) + 1) := by unfold I64; omega
  have hv := hf _ (bJ hlt)
  by_cases hc : (ix g.edges i).id = n
  ·have hfi := zF (l := g.edges) (p := λ e => decide (e.id = n)) hlt (decide_eq_true hc) (λ j hj => decide_eq_false (hall j hj))
   simp [ac, ag, ae, am, ap, aa, au, ab, ao, ak, ah, ai, aj, hlt, aw hlt, hc, wY, hv, hfi]
  ·simp [ac, ag, ae, am, ap, aa, au, ab, ao, ak, ah, ai, aj, hlt, aw hlt, hc, i1]
   refine ⟨i + 1, ⟨by omega, λ j hj => ?_⟩, by omega, bH 2 (by simp) (by simp) (by simp [AV.clean, AV.clean1]) (by simp) (by simp)⟩
   rcases lt_or_ge j i with h' | h'
   ·exact hall j h'
   ·rw [show j = i by omega]; exact hc
 ·exfalso
  obtain ⟨e, he, hn⟩ := hex
  obtain ⟨j, hj, rfl⟩ := List.mem_iff_getElem.1 he
  have := hall j (by omega)
  rw [bF hj] at this
  exact this hn
def mj : PSp := aW (λ (g : Gra) (i : Int) => (∀ e ∈ g.nodes, kW e.props /\ e.labels.length <= 1000000) /\ g.nodes.length <= 1000000 /\ ∃ e ∈ g.nodes, e.id = i) (λ g i => .tup [Enc.enc ((g.nodes.find? λ e => decide (e.id = i)).getD default), .bool true])
theorem Oo : PureOK prog G0 318 mj := by
 refine hZ qt mixed func318 rfl rfl rfl [5] (by kernel_rfl) (by decide) (λ g n ⟨hf, hl, hex⟩ => ?_)
 simp [ac, ag, ae, am, ap, aa, au, ab, ao, ak, ah, ai, aj]
 refine aA qt mixed [5] (λ i : Nat => ⟨[(1, .int .i64 n), (2, .ptr 0 1 4 0 0), (4, .ptr 1 1 3 0 0), (9, Enc.enc g.nodes), (10, .int .i64 g.nodes.length), (11, .int .i64 i)], [⟨25, 4, [[.slice 3 false (aq g.nodes), .slice 5 false (aq g.edges), .int .i64 g.nn, .int .i64 g.ne]], true, true⟩, ⟨48, 3, [[.int .i64 0, .slice 1 true [], .slice 6 true []]], true, true⟩]⟩) (λ i => i <= g.nodes.length /\ ∀ j, j < i -> (ix g.nodes j).id ≠ n) (λ i => g.nodes.length - i) (by kernel_rfl) ⟨0, ⟨by omega, λ j hj => by omega⟩, ar (by simp)⟩ ?_
 rintro i ⟨hi, hall⟩
 by_cases hlt : i < g.nodes.length
 ·have i1 : I64 ((i : Int) + 1) := by unfold I64; omega
  obtain ⟨hv, hv2⟩ := hf _ (bJ hlt)
  by_cases hc : (ix g.nodes i).id = n
  ·have hfi := zF (l := g.nodes) (p := λ e => decide (e.id = n)) hlt (decide_eq_true hc) (λ j hj => decide_eq_false (hall j hj))
   simp [ac, ag, ae, am, ap, aa, au, ab, ao, ak, ah, ai, aj, hlt, aw hlt, hc]
   refine aE qt mixed [.pure, .pure, .read, .eff, .pure, .read, .read, .pure, .eff, .pure] [[],[],[1],[1,2],[],[4],[2,1,3,4,5],[5,4,6,2,1,3,0],[0,3,1,2,6,4,5,7],[7,5,4,6,2,1,3,0,8]] (by kernel_rfl) (by kernel_rfl) (by kernel_rfl) (by kernel_rfl) ?_
   simp [ac, ag, ae, am, ap, aa, au, ab, ao, ak, ah, ai, aj, pS, bE, wY, hv, hv2, hfi, hc]
  ·simp [ac, ag, ae, am, ap, aa, au, ab, ao, ak, ah, ai, aj, hlt, aw hlt, hc, i1]
   refine ⟨i + 1, ⟨by omega, λ j hj => ?_⟩, by omega, bH 2 (by simp) (by simp) (by simp [AV.clean, AV.clean1]) (by simp) (by simp)⟩
   rcases lt_or_ge j i with h' | h'
   ·exact hall j h'
   ·rw [show j = i by omega]; exact hc
 ·exfalso
  obtain ⟨e, he, hn⟩ := hex
  obtain ⟨j, hj, rfl⟩ := List.mem_iff_getElem.1 he
  have := hall j (by omega)
  rw [bF hj] at this
  exact this hn
def pR : List AV -> Option (Prop × AV × List Blk) := pV (λ (r : List Val) (n : Int) => n = r.length /\ r.length <= 1000) (λ r _ => .own 0 r.length) (λ r _ => [bE 62 r])
theorem CI : bg prog G0 115 (bY pR) := by
 refine Ok aR mixed func115 rfl rfl rfl [] (by kernel_rfl) (by decide) (λ _ _ => [0]) (λ _ _ => by decide) (λ r n => ⟨rfl, by simp only [all_cons, all_nil, Bool.and_true, bE, okB]; exact l6 _ (KD _) r⟩) (λ r n hp => ?_)
 obtain ⟨rfl, hl⟩ := hp
 simp [ac, ag, ae, am, ap, aa, au, ab, ao, ak, ah, ai, aj]
 refine ⟨by omega, eh ?_⟩
 simp [ac, ag, ae, am, ap, aa, au, ab, ao, ak, ah, ai, aj, bE]
noncomputable def CMe : Ctx := mkC prog G0 [(115, .gen (bY pR))]
@[simp] theorem T5 : CMe.P = prog := rfl
@[simp] theorem T4 : CMe.G = G0 := rfl
@[simp] theorem T3 : CMe.S 115 = .gen (bY pR) := rfl
theorem yL : aB CMe := aD (aF (CI) func115 rfl (by decide)) (ax _ _)
def Jr (c : ByteArray) (v : Val) : List AV := .str c :: Enc.cells v
def nU (cs : List ByteArray) (r : List Val) : List (List AV) := (cs.zip r).map λ p => Jr p.1 p.2
def nX : PSp := aW (λ (cs : List ByteArray) (r : List Val) => cs.length = r.length /\ r.length <= 1000) (λ cs r => .slice 6 false (nU cs r))
theorem JM : PureOK prog G0 114 nX := by
 refine hZ yL mixed func114 rfl rfl rfl [5] (by kernel_rfl) (by decide) (λ cs r hp => ?_)
 obtain ⟨hl, hr⟩ := hp
 simp [ac, ag, ae, am, ap, aa, au, ab, ao, ak, ah, ai, aj, pR, bE, hl, hr]
 refine aA yL mixed [5] (λ i : Nat => ⟨[(0, Enc.enc cs), (5, .own 1 i), (11, .own 0 r.length), (12, .int .i64 r.length), (13, .int .i64 i)], [bE 62 r, ⟨244, 6, (nU cs r).take i, true, true⟩]⟩) (λ i => i <= r.length) (λ i => r.length - i) (by kernel_rfl) ⟨0, by omega, (ev 5 6 244 (by simp) (by decide)).trans (ar (by simp [bE]))⟩ (λ i hi => ?_)
 have hel : (nU cs r).length = r.length := by simp [nU, hl]
 have htl : ((nU cs r).take i).length = i := by rw [List.length_take, hel]; omega
 by_cases hlt : i < r.length
 ·have i1 : I64 ((i : Int) + 1) := by unfold I64; omega
  have hlc : i < cs.length := by omega
  have hstep : (nU cs r).take (i + 1) = (nU cs r).take i ++ [.str (ix cs i) :: Enc.cells (ix r i)] := by
   rw [take_add_one, getElem?_eq_getElem (by rw [hel]; exact hlt)]
   simp [nU, Jr, bF hlt, bF hlc]
  simp [ac, ag, ae, am, ap, aa, au, ab, ao, ak, ah, ai, aj, hlt, aw hlt, bE, i1]
  refine aE yL mixed [.pure, .pure, .pure, .pure, .read, .read, .pure, .eff, .eff, .pure] [[],[],[],[2,1],[1,2,3],[],[5,3,2,1,4],[4,1,2,3,5,6],[6,5,3,2,1,4,7,0],[0,7,4,1,2,3,5,6,8]] (by kernel_rfl) (by kernel_rfl) (by kernel_rfl) (by kernel_rfl) ?_
  simp [ac, ag, ae, am, ap, aa, au, ab, ao, ak, ah, ai, aj, hlt, hlc, aw hlc, i1, htl]
  exact ⟨by omega, i + 1, by omega, by omega, bH 2 (by simp) (by simp) (by simp [AV.clean, AV.clean1]) (by simp [bE]) (by rw [hstep]; simp [bE])⟩
 ·have hie : i = r.length := by omega
  subst hie
  have e := take_length (l := nU cs r)
  rw [hel] at e
  simp [ac, ag, ae, am, ap, aa, au, ab, ao, ak, ah, ai, aj, bE, hel, e]
def rk : PSp := aW (λ (a b : Val) => ∃ x y, InR x /\ InR y /\ a = vOf 2 x /\ b = vOf 2 y) (λ a b => .int .i64 (if a.n = b.n then 2 else 0))
noncomputable def CQa : Ctx := mkC prog G0 [(243, .pure nM), (310, .pure rm)]
@[simp] theorem Ux : CQa.P = prog := rfl
@[simp] theorem Uw : CQa.G = G0 := rfl
@[simp] theorem Uv : CQa.S 243 = .pure nM /\ CQa.S 310 = .pure rm := ⟨rfl, rfl⟩
theorem Lo : aB CQa := aH (Ac) func243 (aH (y7) func310 (ax _ _))
theorem RH : PureOK prog G0 401 rk := by
 refine hZ Lo mixed func401 rfl rfl rfl [] (by kernel_rfl) (by decide) (λ a b ⟨x, y, hx, hy, ha, hb⟩ => ?_)
 subst ha hb
 have e1 : ∀ n, InR n -> nM [.agg [.int .i64 2, .int .i64 n, .int .i64 0, .str ⟨#[]⟩, .slice 5 false []]] = some (True, .tup [.agg [.int .i64 n, .int .i64 1], .bool true]) := by
  intro n hn
  have : (.agg [.int .i64 2, .int .i64 n, .int .i64 0, .str ⟨#[]⟩, .slice 5 false []] : AV) = Enc.enc (vOf 2 n) := by simp [vOf]
  rw [this]
  simp only [nM, aN]
  rw [Enc.dec_enc]
  simp [vOf, hn]
 by_cases h : x = y
 ·subst h
  simp [ac, ag, ae, am, ap, aa, au, ab, ao, ak, ah, ai, aj, vOf, e1, hx, hy, rm]
 ·simp [ac, ag, ae, am, ap, aa, au, ab, ao, ak, ah, ai, aj, vOf, e1, hx, hy, h, rm]
noncomputable def CQb : Ctx := mkC prog G0 [(169, .pure sVa), (401, .pure rk)]
@[simp] theorem UA : CQb.P = prog := rfl
@[simp] theorem Uz : CQb.G = G0 := rfl
@[simp] theorem Uy : CQb.S 169 = .pure sVa /\ CQb.S 401 = .pure rk := ⟨rfl, rfl⟩
theorem Lp : aB CQb := aH (vP) func169 (aH (RH) func401 (ax _ _))
theorem JN : PureOK prog G0 358 rk := by
 refine hZ Lp mixed func358 rfl rfl rfl [] (by kernel_rfl) (by decide) (λ a b ⟨x, y, hx, hy, ha, hb⟩ => ?_)
 subst ha hb
 have k1 := oF hx
 have k2 := oF hy
 have w1 := kB 2 x
 have w2 := kB 2 y
 have hp : ∃ x', InR x' /\ ∃ y', InR y' /\ vOf 2 x = vOf 2 x' /\ vOf 2 y = vOf 2 y' := ⟨x, hx, y, hy, rfl, rfl⟩
 simp [vOf] at k1 k2 w1 w2
 by_cases h : x = y
 ·subst h
  simp [ac, ag, ae, am, ap, aa, au, ab, ao, ak, ah, ai, aj, vOf, sVa, jD, k1, w1, rk, hx]
 ·simp [ac, ag, ae, am, ap, aa, au, ab, ao, ak, ah, ai, aj, vOf, sVa, jD, k1, k2, w1, w2, rk, hx, hy, h]
def qj : PSp := eV (λ (o : Int) (a b : Val) => o = 13 /\ ∃ x y, InR x /\ InR y /\ a = vOf 2 x /\ b = vOf 2 y) (λ _ a b => .int .i64 (if a.n = b.n then 0 else 2))
noncomputable def CQc : Ctx := mkC prog G0 [(358, .pure rk), (323, .pure Eu)]
@[simp] theorem UD : CQc.P = prog := rfl
@[simp] theorem UC : CQc.G = G0 := rfl
@[simp] theorem UB : CQc.S 358 = .pure rk /\ CQc.S 323 = .pure Eu := ⟨rfl, rfl⟩
theorem Lq : aB CQc := aH (JN) func358 (aH (Sd) func323 (ax _ _))
theorem JC : PureOK prog G0 327 qj := by
 refine DO Lq mixed func327 rfl rfl rfl [11, 13] (by kernel_rfl) (by decide) (λ o a b ⟨ho, x, y, hx, hy, ha, hb⟩ => ?_)
 subst ho ha hb
 by_cases h : x = y
 ·subst h
  simp [ac, ag, ae, am, ap, aa, au, ab, ao, ak, ah, ai, aj, vOf, rk, hx, Eu]
 ·simp [ac, ag, ae, am, ap, aa, au, ab, ao, ak, ah, ai, aj, vOf, rk, hx, hy, h, Eu]
noncomputable def COR (k : Int) : Ctx := mkC prog G0 [(186, .pure (Hb k))]
@[simp] theorem Ul (k : Int) : (COR k).S 186 = .pure (Hb k) := rfl
theorem Ks (k : Int) : (COR k).P.follows .mixedOrders = true := mixed
theorem Lm (k : Int) : aB (COR k) := aD (gN ((Rj k)) func186 rfl (by decide)) (ax _ _)
def iF (k : Int) : PSp := aW (λ (a b : IR k) => gdR a /\ gdR b) (λ a b => .int .i64 (cfR a b))
theorem Ae (k : Int) : PureOK prog G0 122 (iF k) := by
 refine db (C := COR k) (Lm k) (Ks k) func122 rfl rfl rfl (by kernel_rfl) (by decide) (λ a b ⟨h1, h2⟩ => ?_)
 simp [ac, ag, ae, am, ap, aa, au, ab, ao, ak, ah, ai, aj, Hb, h1, h2]
instance : Inhabited Ed := ⟨⟨0, 0, 0⟩⟩
instance : Enc Ed where
 sz := 3
 cells x := [.int .i64 x.f, .int .i64 x.t, .int .i64 x.i]
 enc x := .agg [.int .i64 x.f, .int .i64 x.t, .int .i64 x.i]
 unc c := match c with | [.int _ a, .int _ b, .int _ d] => ⟨a, b, d⟩ | _ => ⟨0, 0, 0⟩
 dec v := match v with | .agg [.int _ a, .int _ b, .int _ d] => ⟨a, b, d⟩ | _ => ⟨0, 0, 0⟩
 unc_cells _ := rfl
 dec_enc _ := rfl
@[simp] theorem RC (x : Ed) : Enc.enc x = .agg [.int .i64 x.f, .int .i64 x.t, .int .i64 x.i] := rfl
@[simp] theorem Ns (x : Ed) : Enc.cells x = [.int .i64 x.f, .int .i64 x.t, .int .i64 x.i] := rfl
@[simp] theorem W9 : Enc.sz Ed = 3 := rfl
@[simp] theorem Rx (k k' k'' : IntKind) (a b c : Int) : (Enc.dec (.agg [.int k a, .int k' b, .int k'' c]) : Ed) = ⟨a, b, c⟩ := rfl
@[simp] theorem RJ (x : Ed) : (⟨x.f, x.t, x.i⟩ : Ed) = x := rfl
def gdE (_ : Ed) : Prop := True
noncomputable def CSE : Ctx := mkC prog G0 [(257, .pure sOr), (108, .pure iT)]
@[simp] theorem U1 : CSE.P = prog := rfl
@[simp] theorem U0 : CSE.G = G0 := rfl
@[simp] theorem UZ : CSE.S 257 = .pure sOr /\ CSE.S 108 = .pure iT := ⟨rfl, rfl⟩
theorem Lu : aB CSE := aH (orP) func257 (aH (zw) func108 (ax _ _))
def Ev : PSp := aW (λ (a b : Ed) => gdE a /\ gdE b) (λ a b => .int .i64 (d8 a b))
theorem OB : PureOK prog G0 361 Ev := by
 refine db Lu mixed func361 rfl rfl rfl (by kernel_rfl) (by decide) (λ a b _ => ?_)
 have e : orF [dx a.t b.t, dx a.i b.i] = d8 a b := by
  unfold d8
  by_cases h : dx a.t b.t = 0 <;> by_cases h2 : dx a.i b.i = 0 <;> simp [orF, h, h2]
 simp [ac, ag, ae, am, ap, aa, au, ab, ao, ak, ah, ai, aj, iT, sOr, e]
structure IS where
 l : List Int
instance : Inhabited IS := ⟨⟨[]⟩⟩
instance : Enc IS where
 sz := 2
 cells x := [.slice 5 false (aq (cC 2 x.l)), .slice 5 false []]
 enc x := .agg [.slice 5 false (aq (cC 2 x.l)), .slice 5 false []]
 unc c := match c with | [v, _] => ⟨(Enc.dec v : IR 2).l⟩ | _ => ⟨[]⟩
 dec v := match v with | .agg [v, _] => ⟨(Enc.dec v : IR 2).l⟩ | _ => ⟨[]⟩
 unc_cells x := by
  show (⟨(Enc.dec (.slice 5 false (aq (cC 2 x.l))) : IR 2).l⟩ : IS) = x
  rw [xY]
 dec_enc x := by
  show (⟨(Enc.dec (.slice 5 false (aq (cC 2 x.l))) : IR 2).l⟩ : IS) = x
  rw [xY]
@[simp] theorem RF (x : IS) : Enc.enc x = .agg [.slice 5 false (aq (cC 2 x.l)), .slice 5 false []] := rfl
@[simp] theorem Nu (x : IS) : Enc.cells x = [.slice 5 false (aq (cC 2 x.l)), .slice 5 false []] := rfl
@[simp] theorem Xb : Enc.sz IS = 2 := rfl
@[simp] theorem Xa {k : Int} : Enc.sz (IR k) = 1 := rfl
@[simp] theorem Rz (l : List Int) (z : Nat) (b : Bool) (v : AV) : (Enc.dec (.agg [.slice z b (aq (cC 2 l)), v]) : IS) = ⟨l⟩ := by
 show (⟨(Enc.dec (.slice z b (aq (cC 2 l))) : IR 2).l⟩ : IS) = _
 rw [xY]
@[simp] theorem RL (x : IS) : (⟨x.l⟩ : IS) = x := rfl
def gdS (x : IS) : Prop := gdR (⟨x.l⟩ : IR 2)
def cfS (a b : IS) : Int := dl a.l b.l
structure CapV (cs : List AV) where
instance (cs : List AV) : Enc (CapV cs) where
 sz := 1
 cells _ := [.iptr cs]
 enc _ := .iptr cs
 unc _ := ⟨⟩
 dec _ := ⟨⟩
 unc_cells _ := rfl
 dec_enc _ := rfl
@[simp] theorem C4 {cs : List AV} (b : CapV cs) : Enc.enc b = .iptr cs := rfl
def zV5 : List AV := [.int .i64 0, .int .i64 0, .int .i64 0, .str ⟨#[]⟩, .slice 5 false []]
def Db (b : UInt8) : List AV := [.int .i64 2] ++ zV5 ++ [.str ⟨#[b]⟩, .bool false, .slice 9 false []]
def Da (b : UInt8) : List AV := [.int .i64 23] ++ zV5 ++ [.str ⟨#[105, 100]⟩, .bool false, .slice 9 false [Db b]]
def aI : List AV := [.int .i64 4, .bool false, .bool true, .slice 3 false [], .slice 9 false [], .int .i64 0] ++ zV5 ++ [.str ⟨#[]⟩, .bool false, .slice 9 false [], .str ⟨#[]⟩,
 .slice 10 false [Da 97 ++ [.str ⟨#[97]⟩], Da 98 ++ [.str ⟨#[98]⟩], Da 99 ++ [.str ⟨#[99]⟩]], .slice 10 false [], .int .i64 (-1), .int .i64 (-1), .slice 13 false [], .slice 1 false []]
def jG : List Int -> Nat -> Prop
 | [a, b, n], N => 0 <= a /\ 0 <= n /\ a + n <= b /\ b + n <= N
 | _, _ => False
def tW {α : Type} : List Int -> Nat -> (Nat -> α) -> (Nat -> α)
 | [a, b, n], _, f => swr f a.toNat b.toNat n.toNat
 | _, _, f => f
def gt : List Int -> Nat -> Prop
 | [a, m, b], N => 0 <= a /\ a < m /\ m < b /\ b <= N
 | _, _ => False
def tRo {α : Type} : List Int -> Nat -> (Nat -> α) -> (Nat -> α)
 | [a, m, b], _, f => bp f a.toNat m.toNat b.toNat
 | _, _, f => f
def dX : List Int -> Nat -> Prop
 | [a, b], N => 0 <= a /\ a <= b /\ b <= N
 | _, _ => False
def tIn {α : Type} (cf : α -> α -> Int) : List Int -> Nat -> (Nat -> α) -> (Nat -> α)
 | [a, b], _, f => fW cf a.toNat (a.toNat + 1) (b.toNat - a.toNat - 1) f
 | _, _, f => f
theorem three {is : List Int} {p : List Int -> Nat -> Prop} {N : Nat} (h : p is N) (hp : ∀ is, is.length ≠ 3 -> ¬ p is N) : ∃ a b c, is = [a, b, c] := by
 match is, h with
 | [a, b, c], _ => exact ⟨a, b, c, rfl⟩
 | [], h => exact absurd h (hp _ (by simp))
 | [_], h => exact absurd h (hp _ (by simp))
 | [_, _], h => exact absurd h (hp _ (by simp))
 | _ :: _ :: _ :: _ :: _, h => exact absurd h (hp _ (by simp))
structure RSt (α : Type) where
 i : Nat
 j : Nat
 g : Nat -> α
structure RotI {α : Type} [Inhabited α] (a m b N : Nat) (f : Nat -> α) (good : α -> Prop) (x : RSt α) : Prop where
 i : 0 < x.i
 j : 0 < x.j
 lo : x.i + a <= m
 hi : m + x.j <= b
 can : Can N x.g
 good : ∀ k, k < N -> good (x.g k)
 eq : bp x.g (m - x.i) m (m + x.j) = bp f a m b
theorem At {k : Int} {N i : Nat} {f : Nat -> IR k} (x : IR k) : (aq (lst N f)).set i [.slice 5 false (aq (cC k x.l))] = aq (lst N (upF f i x)) := ul x
theorem Au {N i : Nat} {f : Nat -> IS} (x : IS) : (aq (lst N f)).set i [.slice 5 false (aq (cC 2 x.l)), .slice 5 false []] = aq (lst N (upF f i x)) := ul x
theorem OQ {N i : Nat} {f : Nat -> Ed} (x : Ed) : (aq (lst N f)).set i [.int .i64 x.f, .int .i64 x.t, .int .i64 x.i] = aq (lst N (upF f i x)) := ul x
theorem SN (k : Int) : bg prog G0 415 (bj (IR k) 79 122 [] gdR jG tW) := by
 refine c9 λ H l N f is hl hc hN hg hp => ?_
 obtain ⟨a, b, n, rfl⟩ := three hp (λ is h hh => by unfold jG at hh; split at hh <;> simp at h hh)
 obtain ⟨p1, p2, p3, p4⟩ := hp
 obtain ⟨a, rfl⟩ := eq_ofNat_of_zero_le p1
 obtain ⟨n, rfl⟩ := eq_ofNat_of_zero_le p2
 obtain ⟨b, rfl⟩ := eq_ofNat_of_zero_le (show 0 <= b by omega)
 refine cP (C := CE) func415 rfl rfl rfl (by show 5 <= _; decide) (ay aR mixed (hd := [3]) _ (by kernel_rfl) ?_)
 simp [ac, ag, ae, am, ap, aa, au, ab, ao, ak, ah, ai, aj, argsρ]
 refine aA aR mixed [3] (λ i : Nat => ⟨[(0, .own l N), (1, .int .i64 a), (2, .int .i64 b), (3, .int .i64 n), (10, .int .i64 i)], H.set l (bS 79 N (swr f a b i))⟩) (λ i => i <= n) (λ i => n - i) (by kernel_rfl) ⟨0, by omega, by rw [qE]; exact ar (by simp)⟩ (λ i hi => ?_)
 by_cases hlt : i < n
 ·have i1 : I64 ((i : Int) + 1) := by unfold I64; omega
  have i2 : I64 ((a : Int) + i) := by unfold I64; omega
  have i3 : I64 ((b : Int) + i) := by unfold I64; omega
  have e2 : ((a : Int) + i).toNat = a + i := by omega
  have e3 : ((b : Int) + i).toNat = b + i := by omega
  have h2 : a + i < N := by omega
  have h3 : b + i < N := by omega
  simp [ac, ag, ae, am, ap, aa, au, ab, ao, ak, ah, ai, aj, hlt]
  refine aE aR mixed [.pure, .pure, .pure, .pure, .pure, .pure, .pure, .pure, .pure, .pure, .pure, .pure, .pure, .read, .pure, .pure, .pure, .pure, .pure, .read, .pure, .eff, .pure, .eff] [[],[],[],[2,1],[],[],[],[6,5],[],[],[],[10,9],[9,10,11,8],[8,11,10,9,12],[],[],[],[16,15],[15,16,17,14],[14,17,16,15,18],[18,15,16,17,14,19,13,12,11,10,9,8,1,2,3,0],[0,3,2,1,8,9,10,11,12,13,19,14,17,16,15,18,20],[21,20,19,18,17,16,15,14,13,12,11,10,9,8,3,2,1,0,5,6,7,4],[4,7,6,5,0,1,2,3,8,9,10,11,12,13,14,15,16,17,18,19,20,21,22]] (by kernel_rfl) (by kernel_rfl) (by kernel_rfl) (by kernel_rfl) ?_
  have hu : upF (upF (swr f a b i) (a + i) (swr f a b i (b + i))) (b + i) (swr f a b i (a + i)) = swr f a b (i + 1) := by rw [jy, qD f (by omega)]
  simp [ac, ag, ae, am, ap, aa, au, ab, ao, ak, ah, ai, aj, hl, i1, i2, i3, e2, e3, h2, h3, aZ, aC h2, aC h3, At, hu]
  exact ⟨⟨by omega, by omega⟩, ⟨by omega, by omega⟩, ⟨by omega, by omega⟩, i + 1, by omega, by omega, ar (by simp)⟩
 ·have e : i = n := by omega
  subst e
  simp [ac, ag, ae, am, ap, aa, au, ab, ao, ak, ah, ai, aj, tW]
  exact bf rfl ⟨trivial, rfl⟩
noncomputable def FJ (k : Int) : Ctx := mkC prog G0 [(415, .gen (bj (IR k) 79 122 [] gdR jG tW))]
@[simp] theorem Qz (k : Int) : (FJ k).S 415 = .gen (bj (IR k) 79 122 [] gdR jG tW) := rfl
theorem zR (k : Int) : (FJ k).P.follows .mixedOrders = true := mixed
theorem Ay (k : Int) : aB (FJ k) := aD (aF ((SN k)) func415 rfl (by decide)) (ax _ _)
theorem St (k : Int) : bg prog G0 368 (bj (IR k) 79 122 [] gdR gt tRo) := by
 refine c9 λ H l N f is hl hc hN hg hp => ?_
 obtain ⟨a, m, b, rfl⟩ := three hp (λ is h hh => by unfold gt at hh; split at hh <;> simp at h hh)
 obtain ⟨p1, p2, p3, p4⟩ := hp
 obtain ⟨a, rfl⟩ := eq_ofNat_of_zero_le p1
 obtain ⟨m, rfl⟩ := eq_ofNat_of_zero_le (show 0 <= m by omega)
 obtain ⟨b, rfl⟩ := eq_ofNat_of_zero_le (show 0 <= b by omega)
 refine cP (C := FJ k) func368 rfl rfl rfl (by show 5 <= _; decide) (ay (Ay k) (zR k) (hd := []) _ (by kernel_rfl) ?_)
 have i1 : I64 ((m : Int) - a) := by unfold I64; omega
 have i2 : I64 ((b : Int) - m) := by unfold I64; omega
 simp [ac, ag, ae, am, ap, aa, au, ab, ao, ak, ah, ai, aj, argsρ, i1, i2]
 refine aA (Ay k) (zR k) [] (λ x : RSt (IR k) => ⟨[(0, .own l N), (1, .int .i64 a), (2, .int .i64 m), (3, .int .i64 b), (4, .fn 122 []), (10, .int .i64 x.i), (11, .int .i64 x.j)], H.set l (bS 79 N x.g)⟩) (RotI a m b N f gdR) (λ x => x.i + x.j) (by kernel_rfl) ⟨⟨m - a, b - m, f⟩, ⟨by simp; omega, by simp; omega, by simp; omega, by simp; omega, hc, hg, by simp only; congr 1 <;> omega⟩, ar (by simp; omega)⟩ ?_
 rintro ⟨i, j, g⟩ ⟨q1, q2, q3, q4, q5, q6, q7⟩
 simp only at q1 q2 q3 q4 q5 q6 q7 ⊢
 have hcall : ∀ x y z : Int, bj (IR k) 79 122 [] gdR jG tW [.own l N, .int .i64 x, .int .i64 y, .int .i64 z, .fn 122 []] (H.set l ⟨79, 1, aq (lst N g), true, true⟩) = some (N <= 1000000 /\ (∀ k, k < N -> gdR (g k)) /\ jG [x, y, z] N, .tup [], (H.set l ⟨79, 1, aq (lst N g), true, true⟩).set l (bS 79 N (tW [x, y, z] N g))) := λ x y z => j0 (fl hl) q5 x y z
 have j1 : I64 ((m : Int) - i) := by unfold I64; omega
 have e1 : ((m : Int) - i).toNat = m - i := by omega
 by_cases hij : i = j
 ·subst hij
  have e9 := D2 g (a := m - i) (m := m) (by omega)
  rw [show m - (m - i) = i by omega, q7] at e9
  simp [ac, ag, ae, am, ap, aa, au, ab, ao, ak, ah, ai, aj, j1, hcall, jG, tW, e1, <- e9]
  exact ⟨⟨hN, q6, by omega⟩, bf rfl ⟨trivial, rfl⟩⟩
 ·have hij' : ¬ ((i : Int) = j) := by omega
  by_cases hlt : j < i
  ·have j2 : I64 ((i : Int) - j) := by unfold I64; omega
   have e2 : ((i - j : Nat) : Int) = (i : Int) - j := by omega
   have mv := qC g (a := m - i) (b := m) (n := j) (by omega)
   simp [ac, ag, ae, am, ap, aa, au, ab, ao, ak, ah, ai, aj, j1, j2, hcall, jG, tW, e1, hij', hlt]
   exact ⟨⟨hN, q6, by omega⟩, ⟨i - j, j, swr g (m - i) m j⟩, ⟨by simp only; omega, q2, by simp only; omega, q4, mv.can (by omega) q5, mv.good (by omega) q6, by simp only; rw [<- q7]; exact su g (by omega) q2 hlt⟩, by simp only; omega, ar (by simp [e2])⟩
  ·have j2 : I64 ((j : Int) - i) := by unfold I64; omega
   have j3 : I64 ((m : Int) + j) := by unfold I64; omega
   have j4 : I64 ((m : Int) + j - i) := by unfold I64; omega
   have e2 : ((j - i : Nat) : Int) = (j : Int) - i := by omega
   have e3 : ((m : Int) + j - i).toNat = m + j - i := by omega
   have mv := qC g (a := m - i) (b := m + j - i) (n := i) (by omega)
   simp [ac, ag, ae, am, ap, aa, au, ab, ao, ak, ah, ai, aj, j1, j2, j3, j4, hcall, jG, tW, e1, e3, hij', hlt]
   exact ⟨⟨hN, q6, by omega⟩, ⟨i, j - i, swr g (m - i) (m + j - i) i⟩, ⟨q1, by simp only; omega, q3, by simp only; omega, mv.can (by omega) q5, mv.good (by omega) q6, by simp only; rw [<- q7]; exact sv g (by omega) q1 (by omega)⟩, by simp only; omega, ar (by simp [e2])⟩
theorem SO  : bg prog G0 432 (bj IS 272 190 [.iptr aI] gdS jG tW) := by
 refine c9 λ H l N f is hl hc hN hg hp => ?_
 obtain ⟨a, b, n, rfl⟩ := three hp (λ is h hh => by unfold jG at hh; split at hh <;> simp at h hh)
 obtain ⟨p1, p2, p3, p4⟩ := hp
 obtain ⟨a, rfl⟩ := eq_ofNat_of_zero_le p1
 obtain ⟨n, rfl⟩ := eq_ofNat_of_zero_le p2
 obtain ⟨b, rfl⟩ := eq_ofNat_of_zero_le (show 0 <= b by omega)
 refine cP (C := CE) func432 rfl rfl rfl (by show 5 <= _; decide) (ay aR mixed (hd := [3]) _ (by kernel_rfl) ?_)
 simp [ac, ag, ae, am, ap, aa, au, ab, ao, ak, ah, ai, aj, argsρ]
 refine aA aR mixed [3] (λ i : Nat => ⟨[(0, .own l N), (1, .int .i64 a), (2, .int .i64 b), (3, .int .i64 n), (10, .int .i64 i)], H.set l (bS 272 N (swr f a b i))⟩) (λ i => i <= n) (λ i => n - i) (by kernel_rfl) ⟨0, by omega, by rw [qE]; exact ar (by simp)⟩ (λ i hi => ?_)
 by_cases hlt : i < n
 ·have i1 : I64 ((i : Int) + 1) := by unfold I64; omega
  have i2 : I64 ((a : Int) + i) := by unfold I64; omega
  have i3 : I64 ((b : Int) + i) := by unfold I64; omega
  have e2 : ((a : Int) + i).toNat = a + i := by omega
  have e3 : ((b : Int) + i).toNat = b + i := by omega
  have h2 : a + i < N := by omega
  have h3 : b + i < N := by omega
  simp [ac, ag, ae, am, ap, aa, au, ab, ao, ak, ah, ai, aj, hlt]
  refine aE aR mixed [.pure, .pure, .pure, .pure, .pure, .pure, .pure, .pure, .pure, .pure, .pure, .pure, .pure, .read, .pure, .pure, .pure, .pure, .pure, .read, .pure, .eff, .pure, .eff] [[],[],[],[2,1],[],[],[],[6,5],[],[],[],[10,9],[9,10,11,8],[8,11,10,9,12],[],[],[],[16,15],[15,16,17,14],[14,17,16,15,18],[18,15,16,17,14,19,13,12,11,10,9,8,1,2,3,0],[0,3,2,1,8,9,10,11,12,13,19,14,17,16,15,18,20],[21,20,19,18,17,16,15,14,13,12,11,10,9,8,3,2,1,0,5,6,7,4],[4,7,6,5,0,1,2,3,8,9,10,11,12,13,14,15,16,17,18,19,20,21,22]] (by kernel_rfl) (by kernel_rfl) (by kernel_rfl) (by kernel_rfl) ?_
  have hu : upF (upF (swr f a b i) (a + i) (swr f a b i (b + i))) (b + i) (swr f a b i (a + i)) = swr f a b (i + 1) := by rw [jy, qD f (by omega)]
  simp [ac, ag, ae, am, ap, aa, au, ab, ao, ak, ah, ai, aj, hl, i1, i2, i3, e2, e3, h2, h3, aZ, aC h2, aC h3, Au, hu]
  exact ⟨⟨by omega, by omega⟩, ⟨by omega, by omega⟩, ⟨by omega, by omega⟩, i + 1, by omega, by omega, ar (by simp)⟩
 ·have e : i = n := by omega
  subst e
  simp [ac, ag, ae, am, ap, aa, au, ab, ao, ak, ah, ai, aj, tW]
  exact bf rfl ⟨trivial, rfl⟩
noncomputable def CYrS : Ctx := mkC prog G0 [(432, .gen (bj IS 272 190 [.iptr aI] gdS jG tW))]
@[simp] theorem QC : CYrS.P = prog := rfl
@[simp] theorem QB : CYrS.G = G0 := rfl
@[simp] theorem QA : CYrS.S 432 = .gen (bj IS 272 190 [.iptr aI] gdS jG tW) := rfl
theorem Az : aB CYrS := aD (aF ((SO )) func432 rfl (by decide)) (ax _ _)
theorem Su  : bg prog G0 388 (bj IS 272 190 [.iptr aI] gdS gt tRo) := by
 refine c9 λ H l N f is hl hc hN hg hp => ?_
 obtain ⟨a, m, b, rfl⟩ := three hp (λ is h hh => by unfold gt at hh; split at hh <;> simp at h hh)
 obtain ⟨p1, p2, p3, p4⟩ := hp
 obtain ⟨a, rfl⟩ := eq_ofNat_of_zero_le p1
 obtain ⟨m, rfl⟩ := eq_ofNat_of_zero_le (show 0 <= m by omega)
 obtain ⟨b, rfl⟩ := eq_ofNat_of_zero_le (show 0 <= b by omega)
 refine cP (C := CYrS ) func388 rfl rfl rfl (by show 5 <= _; decide) (ay (Az ) mixed (hd := []) _ (by kernel_rfl) ?_)
 have i1 : I64 ((m : Int) - a) := by unfold I64; omega
 have i2 : I64 ((b : Int) - m) := by unfold I64; omega
 simp [ac, ag, ae, am, ap, aa, au, ab, ao, ak, ah, ai, aj, argsρ, i1, i2]
 refine aA (Az ) mixed [] (λ x : RSt IS => ⟨[(0, .own l N), (1, .int .i64 a), (2, .int .i64 m), (3, .int .i64 b), (4, .fn 190 [.iptr aI]), (10, .int .i64 x.i), (11, .int .i64 x.j)], H.set l (bS 272 N x.g)⟩) (RotI a m b N f gdS) (λ x => x.i + x.j) (by kernel_rfl) ⟨⟨m - a, b - m, f⟩, ⟨by simp; omega, by simp; omega, by simp; omega, by simp; omega, hc, hg, by simp only; congr 1 <;> omega⟩, ar (by simp; omega)⟩ ?_
 rintro ⟨i, j, g⟩ ⟨q1, q2, q3, q4, q5, q6, q7⟩
 simp only at q1 q2 q3 q4 q5 q6 q7 ⊢
 have hcall : ∀ x y z : Int, bj IS 272 190 [.iptr aI] gdS jG tW [.own l N, .int .i64 x, .int .i64 y, .int .i64 z, .fn 190 [.iptr aI]] (H.set l ⟨272, 2, aq (lst N g), true, true⟩) = some (N <= 1000000 /\ (∀ k, k < N -> gdS (g k)) /\ jG [x, y, z] N, .tup [], (H.set l ⟨272, 2, aq (lst N g), true, true⟩).set l (bS 272 N (tW [x, y, z] N g))) := λ x y z => j0 (fl hl) q5 x y z
 have j1 : I64 ((m : Int) - i) := by unfold I64; omega
 have e1 : ((m : Int) - i).toNat = m - i := by omega
 by_cases hij : i = j
 ·subst hij
  have e9 := D2 g (a := m - i) (m := m) (by omega)
  rw [show m - (m - i) = i by omega, q7] at e9
  simp [ac, ag, ae, am, ap, aa, au, ab, ao, ak, ah, ai, aj, j1, hcall, jG, tW, e1, <- e9]
  exact ⟨⟨hN, q6, by omega⟩, bf rfl ⟨trivial, rfl⟩⟩
 ·have hij' : ¬ ((i : Int) = j) := by omega
  by_cases hlt : j < i
  ·have j2 : I64 ((i : Int) - j) := by unfold I64; omega
   have e2 : ((i - j : Nat) : Int) = (i : Int) - j := by omega
   have mv := qC g (a := m - i) (b := m) (n := j) (by omega)
   simp [ac, ag, ae, am, ap, aa, au, ab, ao, ak, ah, ai, aj, j1, j2, hcall, jG, tW, e1, hij', hlt]
   exact ⟨⟨hN, q6, by omega⟩, ⟨i - j, j, swr g (m - i) m j⟩, ⟨by simp only; omega, q2, by simp only; omega, q4, mv.can (by omega) q5, mv.good (by omega) q6, by simp only; rw [<- q7]; exact su g (by omega) q2 hlt⟩, by simp only; omega, ar (by simp [e2])⟩
  ·have j2 : I64 ((j : Int) - i) := by unfold I64; omega
   have j3 : I64 ((m : Int) + j) := by unfold I64; omega
   have j4 : I64 ((m : Int) + j - i) := by unfold I64; omega
   have e2 : ((j - i : Nat) : Int) = (j : Int) - i := by omega
   have e3 : ((m : Int) + j - i).toNat = m + j - i := by omega
   have mv := qC g (a := m - i) (b := m + j - i) (n := i) (by omega)
   simp [ac, ag, ae, am, ap, aa, au, ab, ao, ak, ah, ai, aj, j1, j2, j3, j4, hcall, jG, tW, e1, e3, hij', hlt]
   exact ⟨⟨hN, q6, by omega⟩, ⟨i, j - i, swr g (m - i) (m + j - i) i⟩, ⟨q1, by simp only; omega, q3, by simp only; omega, mv.can (by omega) q5, mv.good (by omega) q6, by simp only; rw [<- q7]; exact sv g (by omega) q1 (by omega)⟩, by simp only; omega, ar (by simp [e2])⟩
noncomputable def CYs : Ctx := mkC prog G0 [(122, .pure (iF 2)), (187, .pure gb)]
@[simp] theorem Wo : CYs.P = prog := rfl
@[simp] theorem Wn : CYs.G = G0 := rfl
@[simp] theorem Wm : CYs.S 122 = .pure (iF 2) /\ CYs.S 187 = .pure gb := ⟨rfl, rfl⟩
theorem EU : aB CYs := aD (gN ((Ae 2)) func122 rfl (by decide)) (aH (KF) func187 (ax _ _))
def lG : PSp := eV (λ (a b : IS) (_ : CapV aI) => gdS a /\ gdS b) (λ a b _ => .int .i64 (cfS a b))
theorem IT : PureOK prog G0 190 lG := by
 refine wJ EU mixed func190 rfl rfl rfl (by kernel_rfl) (by decide) (λ a b c ⟨h1, h2⟩ => ?_)
 unfold gdS at h1 h2
 simp only [C4]
 simp [ac, ag, ae, am, ap, aa, au, ab, ao, ak, ah, ai, aj, aI, zV5]
 refine aT EU mixed (λ i : Nat => ⟨[(3, .ptr 0 1 2 0 0), (4, .ptr 1 1 2 0 0), (10, .slice 10 false []), (11, .int .i64 0), (12, .int .i64 0)], [⟨272, 2, [[.slice 5 false (aq (cC 2 a.l)), .slice 5 false []]], true, true⟩, ⟨272, 2, [[.slice 5 false (aq (cC 2 b.l)), .slice 5 false []]], true, true⟩]⟩) (λ i => True) (λ i => i) (by kernel_rfl) ⟨0, trivial, ar (by simp)⟩ ?_
 intro i _
 simp [ac, ag, ae, am, ap, aa, au, ab, ao, ak, ah, ai, aj, iF, h1, h2, cfR, cfS]
structure ISt (α : Type) where
 i : Nat
 g : Nat -> α
structure InsI {α : Type} [Inhabited α] (cf : α -> α -> Int) (a b N : Nat) (f : Nat -> α) (good : α -> Prop) (x : ISt α) : Prop where
 lo : a + 1 <= x.i
 can : Can N x.g
 good : ∀ k, k < N -> good (x.g k)
 eq : fW cf a x.i (b - x.i) x.g = fW cf a (a + 1) (b - a - 1) f
structure InsJ {α : Type} [Inhabited α] (cf : α -> α -> Int) (a i N : Nat) (f : Nat -> α) (good : α -> Prop) (x : ISt α) : Prop where
 lo : a <= x.i
 hi : x.i <= i
 can : Can N x.g
 good : ∀ k, k < N -> good (x.g k)
 eq : jj cf a x.i x.g = jj cf a i f
theorem ib {α : Type} (f : Nat -> α) (i j : Nat) : swp f i j = swp f j i := by
 funext k
 unfold swp
 repeat' split
 all_goals first | rfl | (subst_vars; rfl)
theorem tL {α : Type} {cf : α -> α -> Int} {a j : Nat} {g : Nat -> α} (h : a < j) (hc : cf (g j) (g (j - 1)) < 0) : jj cf a j g = jj cf a (j - 1) (swp g j (j - 1)) := by
 cases j with
 | zero => omega
 | succ j => rw [jj, if_pos ⟨h, hc⟩]; rfl
theorem iN {α : Type} {cf : α -> α -> Int} {a j : Nat} {g : Nat -> α} (h : ¬ (a < j /\ cf (g j) (g (j - 1)) < 0)) : jj cf a j g = g := by
 cases j with
 | zero => rfl
 | succ j => rw [jj]; exact if_neg h
theorem tJ {α : Type} {cf : α -> α -> Int} {a i b : Nat} {g : Nat -> α} (h : i < b) : fW cf a i (b - i) g = fW cf a (i + 1) (b - (i + 1)) (jj cf a i g) := by
 rw [show b - i = (b - (i + 1)) + 1 by omega, fW]
theorem two {is : List Int} {p : List Int -> Nat -> Prop} {N : Nat} (h : p is N) (hp : ∀ is, is.length ≠ 2 -> ¬ p is N) : ∃ a b, is = [a, b] := by
 match is, h with
 | [a, b], _ => exact ⟨a, b, rfl⟩
 | [], h => exact absurd h (hp _ (by simp))
 | [_], h => exact absurd h (hp _ (by simp))
 | _ :: _ :: _ :: _, h => exact absurd h (hp _ (by simp))
noncomputable def Cg (k : Int) : Ctx := mkC prog G0 [(122, .pure (iF k))]
@[simp] theorem Qn (k : Int) : (Cg k).P = prog := rfl
@[simp] theorem Qm (k : Int) : (Cg k).S 122 = .pure (iF k) := rfl
theorem l5 (k : Int) : (Cg k).P.follows .mixedOrders = true := mixed
theorem mn (k : Int) : aB (Cg k) := aD (gN ((Ae k)) func122 rfl (by decide)) (ax _ _)
theorem RW (k : Int) : bg prog G0 311 (bj (IR k) 79 122 [] gdR dX (tIn cfR)) := by
 refine c9 λ H l N f is hl hc hN hg hp => ?_
 obtain ⟨a, b, rfl⟩ := two hp (λ is h hh => by unfold dX at hh; split at hh <;> simp at h hh)
 obtain ⟨p1, p2, p3⟩ := hp
 obtain ⟨a, rfl⟩ := eq_ofNat_of_zero_le p1
 obtain ⟨b, rfl⟩ := eq_ofNat_of_zero_le (show 0 <= b by omega)
 refine cP (C := Cg k) func311 rfl rfl rfl (by show 4 <= _; decide) (ay (mn k) (l5 k) (hd := [4, 6]) _ (by kernel_rfl) ?_)
 have i1 : I64 ((a : Int) + 1) := by unfold I64; omega
 simp [ac, ag, ae, am, ap, aa, au, ab, ao, ak, ah, ai, aj, argsρ, i1]
 refine aA (mn k) (l5 k) [4, 6] (λ x : ISt (IR k) => ⟨[(0, .own l N), (1, .int .i64 a), (2, .int .i64 b), (3, .fn 122 []), (8, .int .i64 x.i)], H.set l (bS 79 N x.g)⟩) (InsI cfR a b N f gdR) (λ x => b - x.i) (by kernel_rfl) ⟨⟨a + 1, f⟩, ⟨by simp, hc, hg, by simp only; congr 1⟩, ar (by simp)⟩ ?_
 rintro ⟨i, g⟩ ⟨q1, q2, q3, q4⟩
 simp only at q1 q2 q3 q4 ⊢
 by_cases hib : i < b
 ·have j1 : I64 ((i : Int) + 1) := by unfold I64; omega
  simp [ac, ag, ae, am, ap, aa, au, ab, ao, ak, ah, ai, aj, hib]
  refine aA (mn k) (l5 k) [4, 6] (λ x : ISt (IR k) => ⟨[(0, .own l N), (1, .int .i64 a), (2, .int .i64 b), (3, .fn 122 []), (8, .int .i64 i), (9, .int .i64 x.i)], H.set l (bS 79 N x.g)⟩) (InsJ cfR a i N g gdR) (λ x => x.i) (by kernel_rfl) ⟨⟨i, g⟩, ⟨by simp only; omega, le_refl _, q2, q3, rfl⟩, ar (by simp)⟩ ?_
  rintro ⟨j, u⟩ ⟨r1, r2, r3, r4, r5⟩
  simp only at r1 r2 r3 r4 r5 ⊢
  have hout : jj cfR a j u = u -> InsI cfR a b N f gdR ⟨i + 1, u⟩ := λ he => ⟨by simp only; omega, r3, r4, by simp only; rw [<- q4, tJ hib, <- r5, he]⟩
  simp [ac, ag, ae, am, ap, aa, au, ab, ao, ak, ah, ai, aj]
  refine aE (mn k) (l5 k) [.pure, .pure, .pure, .pure, .pure, .pure, .pure, .pure, .read, .pure, .pure, .pure, .pure, .read, .eff, .pure, .pure] [[],[],[1,0],[0,1,2],[2,1,0,3],[2,1,0,3],[2,1,0,3],[6,3,0,1,2,5],[5,2,1,0,3,6,7],[2,1,0,3],[2,1,0,3],[3,0,1,2,10],[10,11,3,0,1,2,9],[9,2,1,0,3,11,10,12],[12,10,11,9,13,7,6,5,8,3,0,1,2,4],[4,2,1,0,3,8,5,6,7,13,9,11,10,12,14],[14,12,10,11,9,13,7,6,5,8,4,15,2,1,0,3]] (by kernel_rfl) (by kernel_rfl) (by kernel_rfl) (by kernel_rfl) ?_
  by_cases haj : a < j
  ·have k1 : I64 ((j : Int) - 1) := by unfold I64; omega
   have e1 : ((j : Int) - 1).toNat = j - 1 := by omega
   have h1 : j < N := by omega
   have h2 : j - 1 < N := by omega
   have g1 := r4 _ h1
   have g2 := r4 _ h2
   by_cases hcmp : cfR (u j) (u (j - 1)) < 0
   ·have hu : upF (upF u j (u (j - 1))) (j - 1) (u j) = swp u j (j - 1) := by rw [jy, ib]
    simp [ac, ag, ae, am, ap, aa, au, ab, ao, ak, ah, ai, aj, haj, k1, e1, hl, h1, h2, aZ, aC h1, aC h2, iF, g1, g2, hcmp]
    refine ⟨⟨by omega, by omega⟩, ?_⟩
    refine aE (mn k) (l5 k) [.pure, .pure, .pure, .pure, .pure, .pure, .pure, .pure, .pure, .read, .pure, .pure, .pure, .read, .pure, .eff, .pure, .eff] [[],[],[],[],[3],[],[],[6],[6,7,5],[5,7,6,8],[],[],[11,10],[10,11,12],[12,11,10,13,9,8,7,6,5,1,0],[0,1,5,6,7,8,9,13,10,11,12,14],[15,14,13,12,11,10,9,8,7,6,5,1,0,3,4,2],[2,4,3,0,1,5,6,7,8,9,10,11,12,13,14,15,16]] (by kernel_rfl) (by kernel_rfl) (by kernel_rfl) (by kernel_rfl) ?_
    simp [ac, ag, ae, am, ap, aa, au, ab, ao, ak, ah, ai, aj, k1, e1, hl, h1, h2, aZ, aC h1, aC h2, At, hu]
    repeat (refine ⟨by omega, ?_⟩)
    exact ⟨⟨j - 1, swp u j (j - 1)⟩, ⟨by simp only; omega, by simp only; omega, uz r3 h1 h2, (qz (a := 0) (b := N) (by omega) (by omega)).good (le_refl _) r4, by simp only; rw [<- tL haj hcmp]; exact r5⟩, by simp only; omega, ar (by simp; omega)⟩
   ·simp [ac, ag, ae, am, ap, aa, au, ab, ao, ak, ah, ai, aj, haj, k1, e1, hl, h1, h2, aZ, aC h1, aC h2, iF, g1, g2, hcmp, j1]
    repeat (refine ⟨by omega, ?_⟩)
    exact ⟨⟨i + 1, u⟩, hout (iN λ h => hcmp h.2), by simp only; omega, ar (by simp)⟩
  ·simp [ac, ag, ae, am, ap, aa, au, ab, ao, ak, ah, ai, aj, haj, j1]
   exact ⟨⟨i + 1, u⟩, hout (iN λ h => haj h.1), by simp only; omega, ar (by simp)⟩
 ·have e : fW cfR a i (b - i) g = g := by rw [show b - i = 0 by omega]; cases i <;> rfl
  rw [e] at q4
  have e2 : tIn cfR [(a : Int), b] N f = g := q4.symm
  simp [ac, ag, ae, am, ap, aa, au, ab, ao, ak, ah, ai, aj, hib, e2]
  exact bf rfl ⟨trivial, rfl⟩
noncomputable def CYiS : Ctx := mkC prog G0 [(190, .pure lG)]
@[simp] theorem Qq : CYiS.P = prog := rfl
@[simp] theorem Qp : CYiS.G = G0 := rfl
@[simp] theorem Qo : CYiS.S 190 = .pure lG := rfl
theorem mp : aB CYiS := aH (IT) func190 (ax _ _)
theorem RY  : bg prog G0 333 (bj IS 272 190 [.iptr aI] gdS dX (tIn cfS)) := by
 refine c9 λ H l N f is hl hc hN hg hp => ?_
 obtain ⟨a, b, rfl⟩ := two hp (λ is h hh => by unfold dX at hh; split at hh <;> simp at h hh)
 obtain ⟨p1, p2, p3⟩ := hp
 obtain ⟨a, rfl⟩ := eq_ofNat_of_zero_le p1
 obtain ⟨b, rfl⟩ := eq_ofNat_of_zero_le (show 0 <= b by omega)
 refine cP (C := CYiS ) func333 rfl rfl rfl (by show 4 <= _; decide) (ay (mp ) mixed (hd := [4, 6]) _ (by kernel_rfl) ?_)
 have i1 : I64 ((a : Int) + 1) := by unfold I64; omega
 simp [ac, ag, ae, am, ap, aa, au, ab, ao, ak, ah, ai, aj, argsρ, i1]
 refine aA (mp ) mixed [4, 6] (λ x : ISt IS => ⟨[(0, .own l N), (1, .int .i64 a), (2, .int .i64 b), (3, .fn 190 [.iptr aI]), (8, .int .i64 x.i)], H.set l (bS 272 N x.g)⟩) (InsI cfS a b N f gdS) (λ x => b - x.i) (by kernel_rfl) ⟨⟨a + 1, f⟩, ⟨by simp, hc, hg, by simp only; congr 1⟩, ar (by simp)⟩ ?_
 rintro ⟨i, g⟩ ⟨q1, q2, q3, q4⟩
 simp only at q1 q2 q3 q4 ⊢
 by_cases hib : i < b
 ·have j1 : I64 ((i : Int) + 1) := by unfold I64; omega
  simp [ac, ag, ae, am, ap, aa, au, ab, ao, ak, ah, ai, aj, hib]
  refine aA (mp ) mixed [4, 6] (λ x : ISt IS => ⟨[(0, .own l N), (1, .int .i64 a), (2, .int .i64 b), (3, .fn 190 [.iptr aI]), (8, .int .i64 i), (9, .int .i64 x.i)], H.set l (bS 272 N x.g)⟩) (InsJ cfS a i N g gdS) (λ x => x.i) (by kernel_rfl) ⟨⟨i, g⟩, ⟨by simp only; omega, le_refl _, q2, q3, rfl⟩, ar (by simp)⟩ ?_
  rintro ⟨j, u⟩ ⟨r1, r2, r3, r4, r5⟩
  simp only at r1 r2 r3 r4 r5 ⊢
  have hout : jj cfS a j u = u -> InsI cfS a b N f gdS ⟨i + 1, u⟩ := λ he => ⟨by simp only; omega, r3, r4, by simp only; rw [<- q4, tJ hib, <- r5, he]⟩
  simp [ac, ag, ae, am, ap, aa, au, ab, ao, ak, ah, ai, aj]
  refine aE (mp ) mixed [.pure, .pure, .pure, .pure, .pure, .pure, .pure, .pure, .read, .pure, .pure, .pure, .pure, .read, .eff, .pure, .pure] [[],[],[1,0],[0,1,2],[2,1,0,3],[2,1,0,3],[2,1,0,3],[6,3,0,1,2,5],[5,2,1,0,3,6,7],[2,1,0,3],[2,1,0,3],[3,0,1,2,10],[10,11,3,0,1,2,9],[9,2,1,0,3,11,10,12],[12,10,11,9,13,7,6,5,8,3,0,1,2,4],[4,2,1,0,3,8,5,6,7,13,9,11,10,12,14],[14,12,10,11,9,13,7,6,5,8,4,15,2,1,0,3]] (by kernel_rfl) (by kernel_rfl) (by kernel_rfl) (by kernel_rfl) ?_
  by_cases haj : a < j
  ·have k1 : I64 ((j : Int) - 1) := by unfold I64; omega
   have e1 : ((j : Int) - 1).toNat = j - 1 := by omega
   have h1 : j < N := by omega
   have h2 : j - 1 < N := by omega
   have g1 := r4 _ h1
   have g2 := r4 _ h2
   by_cases hcmp : cfS (u j) (u (j - 1)) < 0
   ·have hu : upF (upF u j (u (j - 1))) (j - 1) (u j) = swp u j (j - 1) := by rw [jy, ib]
    simp [ac, ag, ae, am, ap, aa, au, ab, ao, ak, ah, ai, aj, haj, k1, e1, hl, h1, h2, aZ, aC h1, aC h2, lG, g1, g2, hcmp]
    refine ⟨⟨by omega, by omega⟩, ?_⟩
    refine aE (mp ) mixed [.pure, .pure, .pure, .pure, .pure, .pure, .pure, .pure, .pure, .read, .pure, .pure, .pure, .read, .pure, .eff, .pure, .eff] [[],[],[],[],[3],[],[],[6],[6,7,5],[5,7,6,8],[],[],[11,10],[10,11,12],[12,11,10,13,9,8,7,6,5,1,0],[0,1,5,6,7,8,9,13,10,11,12,14],[15,14,13,12,11,10,9,8,7,6,5,1,0,3,4,2],[2,4,3,0,1,5,6,7,8,9,10,11,12,13,14,15,16]] (by kernel_rfl) (by kernel_rfl) (by kernel_rfl) (by kernel_rfl) ?_
    simp [ac, ag, ae, am, ap, aa, au, ab, ao, ak, ah, ai, aj, k1, e1, hl, h1, h2, aZ, aC h1, aC h2, Au, hu]
    repeat (refine ⟨by omega, ?_⟩)
    exact ⟨⟨j - 1, swp u j (j - 1)⟩, ⟨by simp only; omega, by simp only; omega, uz r3 h1 h2, (qz (a := 0) (b := N) (by omega) (by omega)).good (le_refl _) r4, by simp only; rw [<- tL haj hcmp]; exact r5⟩, by simp only; omega, ar (by simp; omega)⟩
   ·simp [ac, ag, ae, am, ap, aa, au, ab, ao, ak, ah, ai, aj, haj, k1, e1, hl, h1, h2, aZ, aC h1, aC h2, lG, g1, g2, hcmp, j1]
    repeat (refine ⟨by omega, ?_⟩)
    exact ⟨⟨i + 1, u⟩, hout (iN λ h => hcmp h.2), by simp only; omega, ar (by simp)⟩
  ·simp [ac, ag, ae, am, ap, aa, au, ab, ao, ak, ah, ai, aj, haj, j1]
   exact ⟨⟨i + 1, u⟩, hout (iN λ h => haj h.1), by simp only; omega, ar (by simp)⟩
 ·have e : fW cfS a i (b - i) g = g := by rw [show b - i = 0 by omega]; cases i <;> rfl
  rw [e] at q4
  have e2 : tIn cfS [(a : Int), b] N f = g := q4.symm
  simp [ac, ag, ae, am, ap, aa, au, ab, ao, ak, ah, ai, aj, hib, e2]
  exact bf rfl ⟨trivial, rfl⟩
noncomputable def CYiA : Ctx := mkC prog G0 [(361, .pure Ev)]
@[simp] theorem Ql : CYiA.P = prog := rfl
@[simp] theorem Qk : CYiA.G = G0 := rfl
@[simp] theorem Qj : CYiA.S 361 = .pure Ev := rfl
theorem mm : aB CYiA := aH (OB) func361 (ax _ _)
theorem RV  : bg prog G0 437 (bj Ed 373 361 [] gdE dX (tIn d8)) := by
 refine c9 λ H l N f is hl hc hN hg hp => ?_
 obtain ⟨a, b, rfl⟩ := two hp (λ is h hh => by unfold dX at hh; split at hh <;> simp at h hh)
 obtain ⟨p1, p2, p3⟩ := hp
 obtain ⟨a, rfl⟩ := eq_ofNat_of_zero_le p1
 obtain ⟨b, rfl⟩ := eq_ofNat_of_zero_le (show 0 <= b by omega)
 refine cP (C := CYiA ) func437 rfl rfl rfl (by show 4 <= _; decide) (ay (mm ) mixed (hd := [4, 6]) _ (by kernel_rfl) ?_)
 have i1 : I64 ((a : Int) + 1) := by unfold I64; omega
 simp [ac, ag, ae, am, ap, aa, au, ab, ao, ak, ah, ai, aj, argsρ, i1]
 refine aA (mm ) mixed [4, 6] (λ x : ISt Ed => ⟨[(0, .own l N), (1, .int .i64 a), (2, .int .i64 b), (3, .fn 361 []), (8, .int .i64 x.i)], H.set l (bS 373 N x.g)⟩) (InsI d8 a b N f gdE) (λ x => b - x.i) (by kernel_rfl) ⟨⟨a + 1, f⟩, ⟨by simp, hc, hg, by simp only; congr 1⟩, ar (by simp)⟩ ?_
 rintro ⟨i, g⟩ ⟨q1, q2, q3, q4⟩
 simp only at q1 q2 q3 q4 ⊢
 by_cases hib : i < b
 ·have j1 : I64 ((i : Int) + 1) := by unfold I64; omega
  simp [ac, ag, ae, am, ap, aa, au, ab, ao, ak, ah, ai, aj, hib]
  refine aA (mm ) mixed [4, 6] (λ x : ISt Ed => ⟨[(0, .own l N), (1, .int .i64 a), (2, .int .i64 b), (3, .fn 361 []), (8, .int .i64 i), (9, .int .i64 x.i)], H.set l (bS 373 N x.g)⟩) (InsJ d8 a i N g gdE) (λ x => x.i) (by kernel_rfl) ⟨⟨i, g⟩, ⟨by simp only; omega, le_refl _, q2, q3, rfl⟩, ar (by simp)⟩ ?_
  rintro ⟨j, u⟩ ⟨r1, r2, r3, r4, r5⟩
  simp only at r1 r2 r3 r4 r5 ⊢
  have hout : jj d8 a j u = u -> InsI d8 a b N f gdE ⟨i + 1, u⟩ := λ he => ⟨by simp only; omega, r3, r4, by simp only; rw [<- q4, tJ hib, <- r5, he]⟩
  simp [ac, ag, ae, am, ap, aa, au, ab, ao, ak, ah, ai, aj]
  refine aE (mm ) mixed [.pure, .pure, .pure, .pure, .pure, .pure, .pure, .pure, .read, .pure, .pure, .pure, .pure, .read, .eff, .pure, .pure] [[],[],[1,0],[0,1,2],[2,1,0,3],[2,1,0,3],[2,1,0,3],[6,3,0,1,2,5],[5,2,1,0,3,6,7],[2,1,0,3],[2,1,0,3],[3,0,1,2,10],[10,11,3,0,1,2,9],[9,2,1,0,3,11,10,12],[12,10,11,9,13,7,6,5,8,3,0,1,2,4],[4,2,1,0,3,8,5,6,7,13,9,11,10,12,14],[14,12,10,11,9,13,7,6,5,8,4,15,2,1,0,3]] (by kernel_rfl) (by kernel_rfl) (by kernel_rfl) (by kernel_rfl) ?_
  by_cases haj : a < j
  ·have k1 : I64 ((j : Int) - 1) := by unfold I64; omega
   have e1 : ((j : Int) - 1).toNat = j - 1 := by omega
   have h1 : j < N := by omega
   have h2 : j - 1 < N := by omega
   have g1 := r4 _ h1
   have g2 := r4 _ h2
   by_cases hcmp : d8 (u j) (u (j - 1)) < 0
   ·have hu : upF (upF u j (u (j - 1))) (j - 1) (u j) = swp u j (j - 1) := by rw [jy, ib]
    simp [ac, ag, ae, am, ap, aa, au, ab, ao, ak, ah, ai, aj, haj, k1, e1, hl, h1, h2, aZ, aC h1, aC h2, Ev, g1, g2, hcmp]
    refine ⟨⟨by omega, by omega⟩, ?_⟩
    refine aE (mm ) mixed [.pure, .pure, .pure, .pure, .pure, .pure, .pure, .pure, .pure, .read, .pure, .pure, .pure, .read, .pure, .eff, .pure, .eff] [[],[],[],[],[3],[],[],[6],[6,7,5],[5,7,6,8],[],[],[11,10],[10,11,12],[12,11,10,13,9,8,7,6,5,1,0],[0,1,5,6,7,8,9,13,10,11,12,14],[15,14,13,12,11,10,9,8,7,6,5,1,0,3,4,2],[2,4,3,0,1,5,6,7,8,9,10,11,12,13,14,15,16]] (by kernel_rfl) (by kernel_rfl) (by kernel_rfl) (by kernel_rfl) ?_
    simp [ac, ag, ae, am, ap, aa, au, ab, ao, ak, ah, ai, aj, k1, e1, hl, h1, h2, aZ, aC h1, aC h2, OQ, hu]
    repeat (refine ⟨by omega, ?_⟩)
    exact ⟨⟨j - 1, swp u j (j - 1)⟩, ⟨by simp only; omega, by simp only; omega, uz r3 h1 h2, (qz (a := 0) (b := N) (by omega) (by omega)).good (le_refl _) r4, by simp only; rw [<- tL haj hcmp]; exact r5⟩, by simp only; omega, ar (by simp; omega)⟩
   ·simp [ac, ag, ae, am, ap, aa, au, ab, ao, ak, ah, ai, aj, haj, k1, e1, hl, h1, h2, aZ, aC h1, aC h2, Ev, g1, g2, hcmp, j1]
    repeat (refine ⟨by omega, ?_⟩)
    exact ⟨⟨i + 1, u⟩, hout (iN λ h => hcmp h.2), by simp only; omega, ar (by simp)⟩
  ·simp [ac, ag, ae, am, ap, aa, au, ab, ao, ak, ah, ai, aj, haj, j1]
   exact ⟨⟨i + 1, u⟩, hout (iN λ h => haj h.1), by simp only; omega, ar (by simp)⟩
 ·have e : fW d8 a i (b - i) g = g := by rw [show b - i = 0 by omega]; cases i <;> rfl
  rw [e] at q4
  have e2 : tIn d8 [(a : Int), b] N f = g := q4.symm
  simp [ac, ag, ae, am, ap, aa, au, ab, ao, ak, ah, ai, aj, hib, e2]
  exact bf rfl ⟨trivial, rfl⟩
section
variable {α : Type} {cf : α -> α -> Int}
theorem kw : ∀ (n n' a m b : Nat) (f : Nat -> α), a < m -> m < b -> b - a <= n -> b - a <= n' -> fw cf n a m b f = fw cf n' a m b f
 | 0, _, a, m, b, f, h1, h2, h3, _ => by omega
 | n + 1, 0, a, m, b, f, h1, h2, _, h4 => by omega
 | n + 1, n' + 1, a, m, b, f, h1, h2, h3, h4 => by
  have k1 : ∀ (g : Nat -> α) (s : Nat), (if a < s /\ s < (a + b) / 2 then fw cf n a s ((a + b) / 2) g else g) = (if a < s /\ s < (a + b) / 2 then fw cf n' a s ((a + b) / 2) g else g) := λ g s => by
   split
   ·rename_i h; exact kw n n' a s _ g h.1 h.2 (by omega) (by omega)
   ·rfl
  have k2 : ∀ (g : Nat -> α) (e : Nat), (if (a + b) / 2 < e /\ e < b then fw cf n ((a + b) / 2) e b g else g) = (if (a + b) / 2 < e /\ e < b then fw cf n' ((a + b) / 2) e b g else g) := λ g e => by
   split
   ·rename_i h; exact kw n n' _ e b g h.1 h.2 (by omega) (by omega)
   ·rfl
  rw [fw, fw]
  simp only [k1, k2]
def mq (cf : α -> α -> Int) (a m b : Nat) (f : Nat -> α) : Nat :=
 bsr (λ c => !decide (cf (f ((a + b) / 2 + m - 1 - c)) (f c) < 0)) (if (a + b) / 2 < m then (a + b) / 2 + m - b else a) (if (a + b) / 2 < m then (a + b) / 2 else m)
def syC (cf : α -> α -> Int) (a m b : Nat) (f : Nat -> α) : Nat -> α := fw cf (b - a) a m b f
theorem uA {a m b : Nat} {f : Nat -> α} (h1 : m - a = 1) (h2 : m < b) : syC cf a m b f = bp f a m (bsr (λ h => decide (cf (f h) (f a) < 0)) m b) := by
 unfold syC
 rw [show b - a = (b - a - 1) + 1 by omega, fw, if_pos h1]
theorem uB {a m b : Nat} {f : Nat -> α} (h0 : a < m) (h1 : ¬ m - a = 1) (h2 : b - m = 1) : syC cf a m b f = bp f (bsr (λ h => !decide (cf (f m) (f h) < 0)) a m) m b := by
 unfold syC
 rw [show b - a = (b - a - 1) + 1 by omega, fw, if_neg h1, if_pos h2]
theorem qF {a m b : Nat} {f : Nat -> α} (h0 : a < m) (h1 : ¬ m - a = 1) (h2 : m < b) (h3 : ¬ b - m = 1) {s e mid : Nat} (hs : mq cf a m b f = s) (hm : (a + b) / 2 = mid) (he : mid + m - s = e) :
  syC cf a m b f = if mid < e /\ e < b then syC cf mid e b (if a < s /\ s < mid then syC cf a s mid (bp f s m e) else bp f s m e) else (if a < s /\ s < mid then syC cf a s mid (bp f s m e) else bp f s m e) := by
 have hs' : (if (a + b) / 2 < m then bsr (λ c => !decide (cf (f ((a + b) / 2 + m - 1 - c)) (f c) < 0)) ((a + b) / 2 + m - b) ((a + b) / 2) else bsr (λ c => !decide (cf (f ((a + b) / 2 + m - 1 - c)) (f c) < 0)) a m) = s := by
  rw [<- hs]; unfold mq; split <;> rfl
 have k1 : ∀ (g : Nat -> α), (if a < s /\ s < mid then fw cf (b - a - 1) a s mid g else g) = (if a < s /\ s < mid then syC cf a s mid g else g) := λ g => by
  split
  ·rename_i h; exact kw _ _ a s _ g h.1 h.2 (by omega) (by omega)
  ·rfl
 have k2 : ∀ (g : Nat -> α), (if mid < e /\ e < b then fw cf (b - a - 1) mid e b g else g) = (if mid < e /\ e < b then syC cf mid e b g else g) := λ g => by
  split
  ·rename_i h; exact kw _ _ _ e b g h.1 h.2 (by omega) (by omega)
  ·rfl
 conv => lhs; unfold syC
 rw [show b - a = (b - a - 1) + 1 by omega, fw, if_neg h1, if_neg h3]
 rw [hm] at hs'
 simp only [hm, hs', he, k1, k2]
theorem uC {a m b : Nat} {f : Nat -> α} (h0 : a < m) (h2 : m < b) : a <= mq cf a m b f /\ mq cf a m b f <= m /\ mq cf a m b f <= (a + b) / 2 /\ (a + b) / 2 + m - b <= mq cf a m b f := by
 unfold mq
 by_cases h : (a + b) / 2 < m
 ·rw [if_pos h, if_pos h]
  have := dG (λ c => !decide (cf (f ((a + b) / 2 + m - 1 - c)) (f c) < 0)) ((a + b) / 2 + m - b) ((a + b) / 2) ((a + b) / 2 + m - b) ((a + b) / 2) (le_refl _) (by omega) (le_refl _) (.inl rfl) (.inl rfl)
  omega
 ·rw [if_neg h, if_neg h]
  have := dG (λ c => !decide (cf (f ((a + b) / 2 + m - 1 - c)) (f c) < 0)) a m a m (le_refl _) (by omega) (le_refl _) (.inl rfl) (.inl rfl)
  omega
theorem kv : ∀ (n a m b : Nat) (f : Nat -> α), b - a <= n -> a < m -> m < b -> Mv f (syC cf a m b f) a b
 | 0, a, m, b, f, h, h1, h2 => by omega
 | n + 1, a, m, b, f, h, h1, h2 => by
  by_cases c1 : m - a = 1
  ·rw [uA c1 h2]
   have := dG (λ h => decide (cf (f h) (f a) < 0)) m b m b (le_refl _) (by omega) (le_refl _) (.inl rfl) (.inl rfl)
   exact (kj (by omega) this.1).wide (le_refl _) this.2.1
  ·by_cases c2 : b - m = 1
   ·rw [uB h1 c1 c2]
    have := dG (λ h => !decide (cf (f m) (f h) < 0)) a m a m (le_refl _) (by omega) (le_refl _) (.inl rfl) (.inl rfl)
    exact (kj this.2.1 (by omega)).wide this.1 (le_refl _)
   ·obtain ⟨b1, b2, b3, b4⟩ := uC (cf := cf) (f := f) h1 h2
    obtain ⟨s, hs⟩ : ∃ s, mq cf a m b f = s := ⟨_, rfl⟩
    obtain ⟨mid, hm⟩ : ∃ mid, (a + b) / 2 = mid := ⟨_, rfl⟩
    obtain ⟨e, he⟩ : ∃ e, mid + m - s = e := ⟨_, rfl⟩
    rw [hs] at b1 b2 b3 b4
    rw [qF h1 c1 h2 c2 hs hm he]
    have m1 : Mv f (bp f s m e) a b := (kj (by omega) (by omega)).wide b1 (by omega)
    have m2 : ∀ g, Mv g (if a < s /\ s < mid then syC cf a s mid g else g) a b := λ g => by
     split
     ·rename_i c; exact (kv n a s mid g (by omega) c.1 c.2).wide (le_refl _) (by omega)
     ·exact Mv.refl _ _ _
    have m3 : ∀ g, Mv g (if mid < e /\ e < b then syC cf mid e b g else g) a b := λ g => by
     split
     ·rename_i c; exact (kv n mid e b g (by omega) c.1 c.2).wide (by omega) (le_refl _)
     ·exact Mv.refl _ _ _
    exact (m1.trans (m2 _)).trans (m3 _)
theorem lZ {a : Nat} : ∀ {k i : Nat} {f : Nat -> α}, a <= i -> Mv f (fW cf a i k f) a (i + k)
 | 0, i, f, h => by
  have e : fW cf a i 0 f = f := by cases i <;> rfl
  rw [e]; exact Mv.refl _ _ _
 | k + 1, i, f, h => by
  rw [fW]
  exact ((tM h).wide (le_refl _) (by omega)).trans ((lZ (k := k) (i := i + 1) (by omega)).wide (le_refl _) (by omega))
theorem F3 {P : Nat -> Bool} {i j c : Nat} (h : i < j) (hc : (i + j) / 2 = c) (hP : P c = true) : bsr P i j = bsr P (c + 1) j := by
 subst hc; conv => lhs; rw [bsr]
 rw [dif_pos h, if_pos hP]
theorem Jt {P : Nat -> Bool} {i j c : Nat} (h : i < j) (hc : (i + j) / 2 = c) (hP : P c = false) : bsr P i j = bsr P i c := by
 subst hc; conv => lhs; rw [bsr]
 rw [dif_pos h, hP]; rfl
theorem F2 {P : Nat -> Bool} {i j : Nat} (h : ¬ i < j) : bsr P i j = i := by rw [bsr, dif_neg h]
theorem D3 {f : Nat -> α} {a k : Nat} (h : a <= k) : swp (bp f a (a + 1) (k + 1)) k (k + 1) = bp f a (a + 1) (k + 2) := by
 funext p
 simp only [swp, bp]
 repeat' split
 all_goals first | (exfalso; omega) | rfl | (congr 1; omega)
theorem wU {f : Nat -> α} {k m : Nat} (h0 : 0 < k) (h : k <= m) : swp (bp f k m (m + 1)) k (k - 1) = bp f (k - 1) m (m + 1) := by
 funext p
 simp only [swp, bp]
 repeat' split
 all_goals first | (exfalso; omega) | rfl | (congr 1; omega)
end
def bU (d : Nat) : List Int -> Nat -> Prop
 | [a, m, b], N => 0 <= a /\ a < m /\ m < b /\ b <= N /\ b <= a + d
 | _, _ => False
def tSy {α : Type} (cf : α -> α -> Int) : List Int -> Nat -> (Nat -> α) -> (Nat -> α)
 | [a, m, b], _, f => syC cf a.toNat m.toNat b.toNat f
 | _, _, f => f
theorem w1 : w64 1 = 1 := dd (by unfold I64; omega)
structure PSt where
 i : Nat
 j : Nat
structure BsI (P : Nat -> Bool) (lo hi : Nat) (x : PSt) : Prop where
 b1 : lo <= x.i
 b2 : x.i <= x.j
 b3 : x.j <= hi
 eq : bsr P x.i x.j = bsr P lo hi
theorem BsI.yes {P : Nat -> Bool} {lo hi i j c : Nat} (h : BsI P lo hi ⟨i, j⟩) (hlt : i < j) (hc : (i + j) / 2 = c) (hP : P c = true) : BsI P lo hi ⟨c + 1, j⟩ := by
 obtain ⟨h1, h2, h3, h4⟩ := h
 simp only at h1 h2 h3 h4
 exact ⟨by simp only; omega, by simp only; omega, h3, by simp only; rw [<- h4, F3 hlt hc hP]⟩
theorem BsI.no {P : Nat -> Bool} {lo hi i j c : Nat} (h : BsI P lo hi ⟨i, j⟩) (hlt : i < j) (hc : (i + j) / 2 = c) (hP : P c = false) : BsI P lo hi ⟨i, c⟩ := by
 obtain ⟨h1, h2, h3, h4⟩ := h
 simp only at h1 h2 h3 h4
 exact ⟨h1, by simp only; omega, by simp only; omega, by simp only; rw [<- h4, Jt hlt hc hP]⟩
theorem BsI.fin {P : Nat -> Bool} {lo hi i j : Nat} (h : BsI P lo hi ⟨i, j⟩) (hlt : ¬ i < j) : i = bsr P lo hi := by
 obtain ⟨h1, h2, h3, h4⟩ := h
 simp only at h4
 rw [<- h4, F2 hlt]
theorem iC {i j : Nat} (h : i + j <= 4000000) : IntKind.wrap .u64 ((i : Int) + j) = (i : Int) + j := by simp [IntKind.wrap, IntKind.bits, IntKind.signed]; omega
theorem iA {i j c : Nat} (hc : (i + j) / 2 = c) : ((i : Int) + j).fdiv (2 ^ min 1 IntKind.u64.bits) = (c : Int) := by
 have e : (2 : Int) ^ min 1 IntKind.u64.bits = 2 := rfl
 rw [e, Int.fdiv_eq_ediv_of_nonneg _ (by omega)]; omega
theorem iB {c : Nat} (h : c <= 4000000) : IntKind.wrap .i64 (c : Int) = (c : Int) := dd (by unfold I64; omega)
noncomputable def qQ (k : Int) (d : Nat) (ih : bg prog G0 312 (bj (IR k) 79 122 [] gdR (bU d) (tSy cfR))) : Ctx := mkC prog G0 [(122, .pure (iF k)), (368, .gen (bj (IR k) 79 122 [] gdR gt tRo)), (312, .gen (bj (IR k) 79 122 [] gdR (bU d) (tSy cfR)))]
@[simp] theorem Qu (k : Int) (d : Nat) (ih : bg prog G0 312 (bj (IR k) 79 122 [] gdR (bU d) (tSy cfR))) : (qQ k d ih).P = prog := rfl
@[simp] theorem Qr (k : Int) (d : Nat) (ih : bg prog G0 312 (bj (IR k) 79 122 [] gdR (bU d) (tSy cfR))) : (qQ k d ih).S 122 = .pure (iF k) := rfl
@[simp] theorem Qs (k : Int) (d : Nat) (ih : bg prog G0 312 (bj (IR k) 79 122 [] gdR (bU d) (tSy cfR))) : (qQ k d ih).S 368 = .gen (bj (IR k) 79 122 [] gdR gt tRo) := rfl
@[simp] theorem Qt (k : Int) (d : Nat) (ih : bg prog G0 312 (bj (IR k) 79 122 [] gdR (bU d) (tSy cfR))) : (qQ k d ih).S 312 = .gen (bj (IR k) 79 122 [] gdR (bU d) (tSy cfR)) := rfl
theorem gD (k : Int) (d : Nat) (ih : bg prog G0 312 (bj (IR k) 79 122 [] gdR (bU d) (tSy cfR))) : (qQ k d ih).P.follows .mixedOrders = true := mixed
theorem gI (k : Int) (d : Nat) (ih : bg prog G0 312 (bj (IR k) 79 122 [] gdR (bU d) (tSy cfR))) : aB (qQ k d ih) := aD (gN ((Ae k)) func122 rfl (by decide)) (aD (aF ((St k)) func368 rfl (by decide)) (aD (aF (ih) func312 rfl (by decide)) (ax _ _)))
theorem O0 (k : Int) : ∀ d : Nat, bg prog G0 312 (bj (IR k) 79 122 [] gdR (bU d) (tSy cfR))
 | 0 => c9 λ H l N f is hl hc hN hg hp => by
  exfalso
  unfold bU at hp
  split at hp
  ·omega
  ·exact hp
 | d + 1 => by
  have ih := O0 k d
  refine c9 λ H l N f is hl hc hN hg hp => ?_
  obtain ⟨a, m, b, rfl⟩ := three hp (λ is h hh => by unfold bU at hh; split at hh <;> simp at h hh)
  obtain ⟨p1, p2, p3, p4, p5⟩ := hp
  obtain ⟨a, rfl⟩ := eq_ofNat_of_zero_le p1
  obtain ⟨m, rfl⟩ := eq_ofNat_of_zero_le (show 0 <= m by omega)
  obtain ⟨b, rfl⟩ := eq_ofNat_of_zero_le (show 0 <= b by omega)
  refine cP (C := qQ k d ih) func312 rfl rfl rfl (by show 5 <= _; decide) (ay (gI k d ih) (gD k d ih) (hd := [11, 23]) _ (by kernel_rfl) ?_)
  have i1 : I64 ((m : Int) - a) := by unfold I64; omega
  have i2 : I64 ((b : Int) - m) := by unfold I64; omega
  by_cases h1 : m - a = 1
  ·have h1' : (m : Int) - a = 1 := by omega
   have e0 : m = a + 1 := by omega
   have hfin := uA (cf := cfR) (f := f) h1 (show m < b by omega)
   have hbs := dG (λ h => decide (cfR (f h) (f a) < 0)) m b m b (le_refl _) (by omega) (le_refl _) (.inl rfl) (.inl rfl)
   simp [ac, ag, ae, am, ap, aa, au, ab, ao, ak, ah, ai, aj, argsρ, i1, h1', w1]
   refine aA (gI k d ih) (gD k d ih) [11, 23] (λ x : PSt => ⟨[(0, .own l N), (1, .int .i64 a), (4, .fn 122 []), (10, .int .i64 x.i), (11, .int .i64 x.j)], H.set l (bS 79 N f)⟩) (BsI (λ h => decide (cfR (f h) (f a) < 0)) m b) (λ x => x.j - x.i) (by kernel_rfl) ⟨⟨m, b⟩, ⟨le_refl _, by simp only; omega, le_refl _, rfl⟩, ar (by simp)⟩ ?_
   rintro ⟨i, j⟩ hI
   have hI' := hI
   obtain ⟨q1, q2, q3, q4⟩ := hI'
   simp only at q1 q2 q3 q4 ⊢
   by_cases hij : i < j
   ·obtain ⟨c, hcc⟩ : ∃ c, (i + j) / 2 = c := ⟨_, rfl⟩
    have j1 : I64 ((i : Int) + j) := by unfold I64; omega
    have j2 : I64 ((c : Int) + 1) := by unfold I64; omega
    have hu := iC (show i + j <= 4000000 by omega)
    have hd := iA hcc
    have hi := iB (show c <= 4000000 by omega)
    have hcN : c < N := by omega
    have haN : a < N := by omega
    have g1 := hg _ hcN
    have g2 := hg _ haN
    by_cases hcmp : cfR (f c) (f a) < 0
    ·simp [ac, ag, ae, am, ap, aa, au, ab, ao, ak, ah, ai, aj, hij, j1, j2, hu, hd, hi, hl, aZ, hcN, haN, aC hcN, aC haN, iF, g1, g2, hcmp]
     exact ⟨⟨c + 1, j⟩, hI.yes hij hcc (decide_eq_true hcmp), by simp only; omega, ar (by simp)⟩
    ·simp [ac, ag, ae, am, ap, aa, au, ab, ao, ak, ah, ai, aj, hij, j1, j2, hu, hd, hi, hl, aZ, hcN, haN, aC hcN, aC haN, iF, g1, g2, hcmp]
     exact ⟨⟨i, c⟩, hI.no hij hcc (decide_eq_false hcmp), by simp only; omega, ar (by simp)⟩
   ·have hi := hI.fin hij
    rw [<- hi] at hfin hbs
    have j3 : I64 ((i : Int) - 1) := by unfold I64; omega
    simp [ac, ag, ae, am, ap, aa, au, ab, ao, ak, ah, ai, aj, hij]
    refine aA (gI k d ih) (gD k d ih) [11, 23] (λ q : Nat => ⟨[(0, .own l N), (10, .int .i64 i), (13, .int .i64 q)], H.set l (bS 79 N (bp f a (a + 1) (q + 1)))⟩) (λ q => a <= q /\ q + 1 <= i) (λ q => i - q) (by kernel_rfl) ⟨a, ⟨by omega, by omega⟩, by rw [oI]; exact ar (by simp)⟩ ?_
    rintro q ⟨r1, r2⟩
    by_cases hk : q + 1 < i
    ·have hk' : (q : Int) < i - 1 := by omega
     have j4 : I64 ((q : Int) + 1) := by unfold I64; omega
     have e4 : ((q : Int) + 1).toNat = q + 1 := by omega
     have n1 : q < N := by omega
     have n2 : q + 1 < N := by omega
     have hu : upF (upF (bp f a (a + 1) (q + 1)) q (bp f a (a + 1) (q + 1) (q + 1))) (q + 1) (bp f a (a + 1) (q + 1) q) = bp f a (a + 1) (q + 2) := by rw [jy, ib, D3 r1]
     simp [ac, ag, ae, am, ap, aa, au, ab, ao, ak, ah, ai, aj, j3, hk']
     refine aE (gI k d ih) (gD k d ih) [.pure, .pure, .pure, .pure, .pure, .pure, .pure, .pure, .pure, .read, .pure, .pure, .pure, .read, .pure, .eff, .pure, .eff] [[],[],[],[],[3],[],[],[6],[6,7,5],[5,7,6,8],[],[],[11,10],[10,11,12],[12,11,10,13,9,8,7,6,5,1,0],[0,1,5,6,7,8,9,13,10,11,12,14],[15,14,13,12,11,10,9,8,7,6,5,1,0,3,4,2],[2,4,3,0,1,5,6,7,8,9,10,11,12,13,14,15,16]] (by kernel_rfl) (by kernel_rfl) (by kernel_rfl) (by kernel_rfl) ?_
     simp [ac, ag, ae, am, ap, aa, au, ab, ao, ak, ah, ai, aj, j4, e4, hl, n1, n2, aZ, aC n1, aC n2, At, hu]
     refine ⟨by omega, ?_⟩
     exact ⟨q + 1, ⟨by omega, by omega⟩, by omega, ar (by simp)⟩
    ·have hk' : ¬ (q : Int) < i - 1 := by omega
     have e5 : tSy cfR [(a : Int), m, b] N f = bp f a (a + 1) (q + 1) := by
      show syC cfR a m b f = _
      rw [hfin, show q + 1 = i by omega, e0]
     simp [ac, ag, ae, am, ap, aa, au, ab, ao, ak, ah, ai, aj, j3, hk', e5]
     exact bf rfl ⟨trivial, rfl⟩
  ·have h1' : ¬ ((m : Int) - a = 1) := by omega
   by_cases h2 : b - m = 1
   ·have h2' : (b : Int) - m = 1 := by omega
    have e0 : b = m + 1 := by omega
    have hfin := uB (cf := cfR) (f := f) (show a < m by omega) h1 h2
    have hbs := dG (λ h => !decide (cfR (f m) (f h) < 0)) a m a m (le_refl _) (by omega) (le_refl _) (.inl rfl) (.inl rfl)
    simp [ac, ag, ae, am, ap, aa, au, ab, ao, ak, ah, ai, aj, argsρ, i1, i2, h1', h2', w1]
    refine aA (gI k d ih) (gD k d ih) [11, 23] (λ x : PSt => ⟨[(0, .own l N), (2, .int .i64 m), (4, .fn 122 []), (14, .int .i64 x.i), (15, .int .i64 x.j)], H.set l (bS 79 N f)⟩) (BsI (λ h => !decide (cfR (f m) (f h) < 0)) a m) (λ x => x.j - x.i) (by kernel_rfl) ⟨⟨a, m⟩, ⟨le_refl _, by simp only; omega, le_refl _, rfl⟩, ar (by simp)⟩ ?_
    rintro ⟨i, j⟩ hI
    have hI' := hI
    obtain ⟨q1, q2, q3, q4⟩ := hI'
    simp only at q1 q2 q3 q4 ⊢
    by_cases hij : i < j
    ·obtain ⟨c, hcc⟩ : ∃ c, (i + j) / 2 = c := ⟨_, rfl⟩
     have j1 : I64 ((i : Int) + j) := by unfold I64; omega
     have j2 : I64 ((c : Int) + 1) := by unfold I64; omega
     have hu := iC (show i + j <= 4000000 by omega)
     have hd := iA hcc
     have hi := iB (show c <= 4000000 by omega)
     have hcN : c < N := by omega
     have hmN : m < N := by omega
     have g1 := hg _ hcN
     have g2 := hg _ hmN
     by_cases hcmp : cfR (f m) (f c) < 0
     ·simp [ac, ag, ae, am, ap, aa, au, ab, ao, ak, ah, ai, aj, hij, j1, j2, hu, hd, hi, hl, aZ, hcN, hmN, aC hcN, aC hmN, iF, g1, g2, hcmp]
      exact ⟨⟨i, c⟩, hI.no hij hcc (by rw [decide_eq_true hcmp]; rfl), by simp only; omega, ar (by simp)⟩
     ·simp [ac, ag, ae, am, ap, aa, au, ab, ao, ak, ah, ai, aj, hij, j1, j2, hu, hd, hi, hl, aZ, hcN, hmN, aC hcN, aC hmN, iF, g1, g2, hcmp]
      exact ⟨⟨c + 1, j⟩, hI.yes hij hcc (by rw [decide_eq_false hcmp]; rfl), by simp only; omega, ar (by simp)⟩
    ·have hi := hI.fin hij
     rw [<- hi] at hfin hbs
     simp [ac, ag, ae, am, ap, aa, au, ab, ao, ak, ah, ai, aj, hij]
     refine aA (gI k d ih) (gD k d ih) [11, 23] (λ q : Nat => ⟨[(0, .own l N), (14, .int .i64 i), (17, .int .i64 q)], H.set l (bS 79 N (bp f q m (m + 1)))⟩) (λ q => i <= q /\ q <= m) (λ q => q) (by kernel_rfl) ⟨m, ⟨by omega, by omega⟩, by rw [oH]; exact ar (by simp)⟩ ?_
     rintro q ⟨r1, r2⟩
     by_cases hk : i < q
     ·have j4 : I64 ((q : Int) - 1) := by unfold I64; omega
      have e4 : ((q : Int) - 1).toNat = q - 1 := by omega
      have n1 : q < N := by omega
      have n2 : q - 1 < N := by omega
      have hu : upF (upF (bp f q m (m + 1)) q (bp f q m (m + 1) (q - 1))) (q - 1) (bp f q m (m + 1) q) = bp f (q - 1) m (m + 1) := by rw [jy, ib, wU (by omega) r2]
      simp [ac, ag, ae, am, ap, aa, au, ab, ao, ak, ah, ai, aj, hk]
      refine aE (gI k d ih) (gD k d ih) [.pure, .pure, .pure, .pure, .pure, .pure, .pure, .pure, .pure, .read, .pure, .pure, .pure, .read, .pure, .eff, .pure, .eff] [[],[],[],[],[3],[],[],[6],[6,7,5],[5,7,6,8],[],[],[11,10],[10,11,12],[12,11,10,13,9,8,7,6,5,1,0],[0,1,5,6,7,8,9,13,10,11,12,14],[15,14,13,12,11,10,9,8,7,6,5,1,0,3,4,2],[2,4,3,0,1,5,6,7,8,9,10,11,12,13,14,15,16]] (by kernel_rfl) (by kernel_rfl) (by kernel_rfl) (by kernel_rfl) ?_
      simp [ac, ag, ae, am, ap, aa, au, ab, ao, ak, ah, ai, aj, j4, e4, hl, n1, n2, aZ, aC n1, aC n2, At, hu]
      refine ⟨by omega, ?_⟩
      exact ⟨q - 1, ⟨by omega, by omega⟩, by omega, ar (by simp; omega)⟩
     ·have e5 : tSy cfR [(a : Int), m, b] N f = bp f q m (m + 1) := by
       show syC cfR a m b f = _
       rw [hfin, show q = i by omega, e0]
      simp [ac, ag, ae, am, ap, aa, au, ab, ao, ak, ah, ai, aj, hk, e5]
      exact bf rfl ⟨trivial, rfl⟩
   ·have h2' : ¬ ((b : Int) - m = 1) := by omega
    obtain ⟨s, hs⟩ : ∃ s, mq cfR a m b f = s := ⟨_, rfl⟩
    obtain ⟨mid, hm⟩ : ∃ mid, (a + b) / 2 = mid := ⟨_, rfl⟩
    obtain ⟨e, he⟩ : ∃ e, mid + m - s = e := ⟨_, rfl⟩
    have hfin := qF (cf := cfR) (f := f) (show a < m by omega) h1 (show m < b by omega) h2 hs hm he
    obtain ⟨b1, b2, b3, b4⟩ := uC (cf := cfR) (f := f) (show a < m by omega) (show m < b by omega)
    rw [hs] at b1 b2 b3 b4
    rw [hm] at b3 b4
    have j1 : I64 ((a : Int) + b) := by unfold I64; omega
    have j2 : I64 ((mid : Int) + m) := by unfold I64; omega
    have j5 : I64 ((mid : Int) + m - b) := by unfold I64; omega
    have j6 : I64 ((mid : Int) + m - 1) := by unfold I64; omega
    have hu := iC (show a + b <= 4000000 by omega)
    have hd := iA hm
    have hi := iB (show mid <= 4000000 by omega)
    obtain ⟨lo, hi', hb, hlo⟩ : ∃ lo hi' : Nat, bsr (λ c => !decide (cfR (f (mid + m - 1 - c)) (f c) < 0)) lo hi' = s /\ ((mid < m /\ lo = mid + m - b /\ hi' = mid) ∨ (¬ mid < m /\ lo = a /\ hi' = m)) := by
     by_cases c : mid < m
     ·exact ⟨mid + m - b, mid, by rw [<- hs]; unfold mq; rw [hm, if_pos c, if_pos c], .inl ⟨c, rfl, rfl⟩⟩
     ·exact ⟨a, m, by rw [<- hs]; unfold mq; rw [hm, if_neg c, if_neg c], .inr ⟨c, rfl, rfl⟩⟩
    have hlh : lo <= hi' /\ hi' <= mid /\ hi' <= m := by omega
    have mv1 : Mv f (bp f s m e) a b := (kj (by omega) (by omega)).wide b1 (by omega)
    have hcg := mv1.can (show b <= N by omega) hc
    have hgg := mv1.good (show b <= N by omega) hg
    have hrot : ∀ x y z : Int, bj (IR k) 79 122 [] gdR gt tRo [.own l N, .int .i64 x, .int .i64 y, .int .i64 z, .fn 122 []] (H.set l ⟨79, 1, aq (lst N f), true, true⟩) = some (N <= 1000000 /\ (∀ k, k < N -> gdR (f k)) /\ gt [x, y, z] N, .tup [], (H.set l ⟨79, 1, aq (lst N f), true, true⟩).set l (bS 79 N (tRo [x, y, z] N f))) := λ x y z => j0 (fl hl) hc x y z
    have hsym : ∀ (u : Nat -> (IR k)) (hu : Can N u) (x y z : Int), bj (IR k) 79 122 [] gdR (bU d) (tSy cfR) [.own l N, .int .i64 x, .int .i64 y, .int .i64 z, .fn 122 []] (H.set l ⟨79, 1, aq (lst N u), true, true⟩) = some (N <= 1000000 /\ (∀ k, k < N -> gdR (u k)) /\ bU d [x, y, z] N, .tup [], (H.set l ⟨79, 1, aq (lst N u), true, true⟩).set l (bS 79 N (tSy cfR [x, y, z] N u))) := λ u hu x y z => j0 (fl hl) hu x y z
    have mv2 : ∀ g : Nat -> (IR k), a < s /\ s < mid -> Mv g (syC cfR a s mid g) a b := λ g hh => (kv _ a s mid g (le_refl _) hh.1 hh.2).wide (le_refl _) (by omega)
    obtain ⟨w, hw⟩ : ∃ w, (if a < s /\ s < mid then syC cfR a s mid (bp f s m e) else bp f s m e) = w := ⟨_, rfl⟩
    have mvw : Mv (bp f s m e) w a b := by
     rw [<- hw]
     split
     ·rename_i hh; exact mv2 _ hh
     ·exact Mv.refl _ _ _
    have hcw := mvw.can (show b <= N by omega) hcg
    have hgw := mvw.good (show b <= N by omega) hgg
    rw [hw] at hfin
    have fin : ∀ ρ u, u = syC cfR a m b f -> kS (qQ k d ih) 220 H.length [] (.tup []) (H.set l ⟨79, 1, aq (lst N (syC cfR a m b f)), true, true⟩) ⟨ρ, H.set l ⟨79, 1, aq (lst N u), true, true⟩⟩ := λ ρ u hu => by subst hu; exact bf rfl ⟨trivial, rfl⟩
    have hrotN : ¬ (s < m /\ m < e) -> bp f s m e = f := λ hh => by
     by_cases h5 : s < m
     ·have : m = e := by omega
      rw [<- this]; exact oI s m
     ·have : s = m := by omega
      rw [this]; exact oH m e
    rcases hlo with ⟨c, k1, k2⟩ | ⟨c, k1, k2⟩
    rotate_left
    ·have c' : ¬ ((mid : Int) < m) := by omega
     have eL : (lo : Int) = a := by omega
     have eR : (hi' : Int) = m := by omega
     simp [ac, ag, ae, am, ap, aa, au, ab, ao, ak, ah, ai, aj, argsρ, i1, i2, h1', h2', j1, j2, j5, j6, hu, hd, hi, c']
     refine aA (gI k d ih) (gD k d ih) [11, 23] (λ x : PSt => ⟨[(0, .own l N), (1, .int .i64 a), (2, .int .i64 m), (3, .int .i64 b), (4, .fn 122 []), (18, .int .i64 mid), (19, .int .i64 ((mid : Int) + m)), (20, .int .i64 x.i), (21, .int .i64 x.j), (22, .int .i64 ((mid : Int) + m - 1))], H.set l (bS 79 N f)⟩) (BsI (λ c => !decide (cfR (f (mid + m - 1 - c)) (f c) < 0)) lo hi') (λ x => x.j - x.i) (by kernel_rfl) ⟨⟨lo, hi'⟩, ⟨le_refl _, hlh.1, le_refl _, rfl⟩, ar (by simp [eL, eR])⟩ ?_
     rintro ⟨i, j⟩ hI
     have hI' := hI
     obtain ⟨q1, q2, q3, q4⟩ := hI'
     simp only at q1 q2 q3 q4 ⊢
     by_cases hij : i < j
     ·obtain ⟨c, hcc⟩ : ∃ c, (i + j) / 2 = c := ⟨_, rfl⟩
      have t1 : I64 ((i : Int) + j) := by unfold I64; omega
      have t2 : I64 ((c : Int) + 1) := by unfold I64; omega
      have t3 : I64 ((mid : Int) + m - 1 - c) := by unfold I64; omega
      have t4 : ((mid : Int) + m - 1 - c).toNat = mid + m - 1 - c := by omega
      have hu := iC (show i + j <= 4000000 by omega)
      have hd := iA hcc
      have hi := iB (show c <= 4000000 by omega)
      have hcN : c < N := by omega
      have hpN : mid + m - 1 - c < N := by omega
      have g1 := hg _ hcN
      have g2 := hg _ hpN
      by_cases hcmp : cfR (f (mid + m - 1 - c)) (f c) < 0
      ·simp [ac, ag, ae, am, ap, aa, au, ab, ao, ak, ah, ai, aj, hij, t1, t2, t3, t4, hu, hd, hi, hl, aZ, hcN, hpN, aC hcN, aC hpN, iF, g1, g2, hcmp]
       refine ⟨by omega, ?_⟩
       exact ⟨⟨i, c⟩, hI.no hij hcc (by rw [decide_eq_true hcmp]; rfl), by simp only; omega, ar (by simp)⟩
      ·simp [ac, ag, ae, am, ap, aa, au, ab, ao, ak, ah, ai, aj, hij, t1, t2, t3, t4, hu, hd, hi, hl, aZ, hcN, hpN, aC hcN, aC hpN, iF, g1, g2, hcmp]
       refine ⟨by omega, ?_⟩
       exact ⟨⟨c + 1, j⟩, hI.yes hij hcc (by rw [decide_eq_false hcmp]; rfl), by simp only; omega, ar (by simp)⟩
     ·have his := hI.fin hij
      rw [hb] at his
      subst his
      have t5 : I64 ((mid : Int) + m - i) := by unfold I64; omega
      have t6 : (mid : Int) + m - i = e := by omega
      have t7 : I64 (e : Int) := by unfold I64; omega
      have fin' : ∀ ρ u, u = syC cfR a m b f -> kS (qQ k d ih) 220 H.length [] (.tup []) (H.set l ⟨79, 1, aq (lst N (tSy cfR [(a : Int), m, b] N f)), true, true⟩) ⟨ρ, H.set l ⟨79, 1, aq (lst N u), true, true⟩⟩ := fin
      obtain ⟨g, hgd⟩ : ∃ g, bp f i m e = g := ⟨_, rfl⟩
      rw [hgd] at hcg hgg hw hrotN
      have E1 : m < e ↔ i < mid := by omega
      have E2 : mid < e ↔ i < m := by omega
      by_cases P : i < m <;> by_cases Q : i < mid
      all_goals first
       | (have hgf : f = g := (hrotN (by omega)).symm
          subst hgf)
       | skip
      all_goals by_cases C : a < i <;> by_cases F : e < b
      all_goals simp only [P, Q, C, true_and, and_true, false_and, and_false, if_true, if_false, not_true, not_false_iff] at hw
      all_goals first
       | (subst hw)
       | skip
      all_goals simp only [E2, P, F, true_and, and_true, false_and, and_false, if_true, if_false] at hfin
      all_goals simp [ac, ag, ae, am, ap, aa, au, ab, ao, ak, ah, ai, aj, hij, t5, t6, t7, P, Q, C, F, E1, E2, hrot, gt, tRo, hgd, hsym f hc, hsym _ hcg, hsym _ hcw, bU, tSy]
      all_goals repeat' (first | exact hN | exact hg | exact hgg | exact hgw | (refine fin' _ _ ?_) | (refine And.intro ?_ ?_))
      all_goals first | omega | exact hfin.symm
    ·have c' : ((mid : Int) < m) := by omega
     have eL : (lo : Int) = (mid : Int) + m - b := by omega
     have eR : (hi' : Int) = mid := by omega
     simp [ac, ag, ae, am, ap, aa, au, ab, ao, ak, ah, ai, aj, argsρ, i1, i2, h1', h2', j1, j2, j5, j6, hu, hd, hi, c']
     refine aA (gI k d ih) (gD k d ih) [11, 23] (λ x : PSt => ⟨[(0, .own l N), (1, .int .i64 a), (2, .int .i64 m), (3, .int .i64 b), (4, .fn 122 []), (18, .int .i64 mid), (19, .int .i64 ((mid : Int) + m)), (20, .int .i64 x.i), (21, .int .i64 x.j), (22, .int .i64 ((mid : Int) + m - 1))], H.set l (bS 79 N f)⟩) (BsI (λ c => !decide (cfR (f (mid + m - 1 - c)) (f c) < 0)) lo hi') (λ x => x.j - x.i) (by kernel_rfl) ⟨⟨lo, hi'⟩, ⟨le_refl _, hlh.1, le_refl _, rfl⟩, ar (by simp [eL, eR])⟩ ?_
     rintro ⟨i, j⟩ hI
     have hI' := hI
     obtain ⟨q1, q2, q3, q4⟩ := hI'
     simp only at q1 q2 q3 q4 ⊢
     by_cases hij : i < j
     ·obtain ⟨c, hcc⟩ : ∃ c, (i + j) / 2 = c := ⟨_, rfl⟩
      have t1 : I64 ((i : Int) + j) := by unfold I64; omega
      have t2 : I64 ((c : Int) + 1) := by unfold I64; omega
      have t3 : I64 ((mid : Int) + m - 1 - c) := by unfold I64; omega
      have t4 : ((mid : Int) + m - 1 - c).toNat = mid + m - 1 - c := by omega
      have hu := iC (show i + j <= 4000000 by omega)
      have hd := iA hcc
      have hi := iB (show c <= 4000000 by omega)
      have hcN : c < N := by omega
      have hpN : mid + m - 1 - c < N := by omega
      have g1 := hg _ hcN
      have g2 := hg _ hpN
      by_cases hcmp : cfR (f (mid + m - 1 - c)) (f c) < 0
      ·simp [ac, ag, ae, am, ap, aa, au, ab, ao, ak, ah, ai, aj, hij, t1, t2, t3, t4, hu, hd, hi, hl, aZ, hcN, hpN, aC hcN, aC hpN, iF, g1, g2, hcmp]
       refine ⟨by omega, ?_⟩
       exact ⟨⟨i, c⟩, hI.no hij hcc (by rw [decide_eq_true hcmp]; rfl), by simp only; omega, ar (by simp)⟩
      ·simp [ac, ag, ae, am, ap, aa, au, ab, ao, ak, ah, ai, aj, hij, t1, t2, t3, t4, hu, hd, hi, hl, aZ, hcN, hpN, aC hcN, aC hpN, iF, g1, g2, hcmp]
       refine ⟨by omega, ?_⟩
       exact ⟨⟨c + 1, j⟩, hI.yes hij hcc (by rw [decide_eq_false hcmp]; rfl), by simp only; omega, ar (by simp)⟩
     ·have his := hI.fin hij
      rw [hb] at his
      subst his
      have t5 : I64 ((mid : Int) + m - i) := by unfold I64; omega
      have t6 : (mid : Int) + m - i = e := by omega
      have t7 : I64 (e : Int) := by unfold I64; omega
      have fin' : ∀ ρ u, u = syC cfR a m b f -> kS (qQ k d ih) 220 H.length [] (.tup []) (H.set l ⟨79, 1, aq (lst N (tSy cfR [(a : Int), m, b] N f)), true, true⟩) ⟨ρ, H.set l ⟨79, 1, aq (lst N u), true, true⟩⟩ := fin
      obtain ⟨g, hgd⟩ : ∃ g, bp f i m e = g := ⟨_, rfl⟩
      rw [hgd] at hcg hgg hw hrotN
      have E1 : m < e ↔ i < mid := by omega
      have E2 : mid < e ↔ i < m := by omega
      by_cases P : i < m <;> by_cases Q : i < mid
      all_goals first
       | (have hgf : f = g := (hrotN (by omega)).symm
          subst hgf)
       | skip
      all_goals by_cases C : a < i <;> by_cases F : e < b
      all_goals simp only [P, Q, C, true_and, and_true, false_and, and_false, if_true, if_false, not_true, not_false_iff] at hw
      all_goals first
       | (subst hw)
       | skip
      all_goals simp only [E2, P, F, true_and, and_true, false_and, and_false, if_true, if_false] at hfin
      all_goals simp [ac, ag, ae, am, ap, aa, au, ab, ao, ak, ah, ai, aj, hij, t5, t6, t7, P, Q, C, F, E1, E2, hrot, gt, tRo, hgd, hsym f hc, hsym _ hcg, hsym _ hcw, bU, tSy]
      all_goals repeat' (first | exact hN | exact hg | exact hgg | exact hgw | (refine fin' _ _ ?_) | (refine And.intro ?_ ?_))
      all_goals first | omega | exact hfin.symm
noncomputable def qR (d : Nat) (ih : bg prog G0 334 (bj IS 272 190 [.iptr aI] gdS (bU d) (tSy cfS))) : Ctx := mkC prog G0 [(190, .pure lG), (388, .gen (bj IS 272 190 [.iptr aI] gdS gt tRo)), (334, .gen (bj IS 272 190 [.iptr aI] gdS (bU d) (tSy cfS)))]
@[simp] theorem Qy (d : Nat) (ih : bg prog G0 334 (bj IS 272 190 [.iptr aI] gdS (bU d) (tSy cfS))) : (qR d ih).P = prog := rfl
@[simp] theorem Qv (d : Nat) (ih : bg prog G0 334 (bj IS 272 190 [.iptr aI] gdS (bU d) (tSy cfS))) : (qR d ih).S 190 = .pure lG := rfl
@[simp] theorem Qw (d : Nat) (ih : bg prog G0 334 (bj IS 272 190 [.iptr aI] gdS (bU d) (tSy cfS))) : (qR d ih).S 388 = .gen (bj IS 272 190 [.iptr aI] gdS gt tRo) := rfl
@[simp] theorem Qx (d : Nat) (ih : bg prog G0 334 (bj IS 272 190 [.iptr aI] gdS (bU d) (tSy cfS))) : (qR d ih).S 334 = .gen (bj IS 272 190 [.iptr aI] gdS (bU d) (tSy cfS)) := rfl
theorem gE (d : Nat) (ih : bg prog G0 334 (bj IS 272 190 [.iptr aI] gdS (bU d) (tSy cfS))) : (qR d ih).P.follows .mixedOrders = true := mixed
theorem gJ (d : Nat) (ih : bg prog G0 334 (bj IS 272 190 [.iptr aI] gdS (bU d) (tSy cfS))) : aB (qR d ih) := aH (IT) func190 (aD (aF ((Su )) func388 rfl (by decide)) (aD (aF (ih) func334 rfl (by decide)) (ax _ _)))
theorem O1  : ∀ d : Nat, bg prog G0 334 (bj IS 272 190 [.iptr aI] gdS (bU d) (tSy cfS))
 | 0 => c9 λ H l N f is hl hc hN hg hp => by
  exfalso
  unfold bU at hp
  split at hp
  ·omega
  ·exact hp
 | d + 1 => by
  have ih := O1  d
  refine c9 λ H l N f is hl hc hN hg hp => ?_
  obtain ⟨a, m, b, rfl⟩ := three hp (λ is h hh => by unfold bU at hh; split at hh <;> simp at h hh)
  obtain ⟨p1, p2, p3, p4, p5⟩ := hp
  obtain ⟨a, rfl⟩ := eq_ofNat_of_zero_le p1
  obtain ⟨m, rfl⟩ := eq_ofNat_of_zero_le (show 0 <= m by omega)
  obtain ⟨b, rfl⟩ := eq_ofNat_of_zero_le (show 0 <= b by omega)
  refine cP (C := qR  d ih) func334 rfl rfl rfl (by show 5 <= _; decide) (ay (gJ  d ih) (gE  d ih) (hd := [11, 23]) _ (by kernel_rfl) ?_)
  have i1 : I64 ((m : Int) - a) := by unfold I64; omega
  have i2 : I64 ((b : Int) - m) := by unfold I64; omega
  by_cases h1 : m - a = 1
  ·have h1' : (m : Int) - a = 1 := by omega
   have e0 : m = a + 1 := by omega
   have hfin := uA (cf := cfS) (f := f) h1 (show m < b by omega)
   have hbs := dG (λ h => decide (cfS (f h) (f a) < 0)) m b m b (le_refl _) (by omega) (le_refl _) (.inl rfl) (.inl rfl)
   simp [ac, ag, ae, am, ap, aa, au, ab, ao, ak, ah, ai, aj, argsρ, i1, h1', w1]
   refine aA (gJ  d ih) (gE  d ih) [11, 23] (λ x : PSt => ⟨[(0, .own l N), (1, .int .i64 a), (4, .fn 190 [.iptr aI]), (10, .int .i64 x.i), (11, .int .i64 x.j)], H.set l (bS 272 N f)⟩) (BsI (λ h => decide (cfS (f h) (f a) < 0)) m b) (λ x => x.j - x.i) (by kernel_rfl) ⟨⟨m, b⟩, ⟨le_refl _, by simp only; omega, le_refl _, rfl⟩, ar (by simp)⟩ ?_
   rintro ⟨i, j⟩ hI
   have hI' := hI
   obtain ⟨q1, q2, q3, q4⟩ := hI'
   simp only at q1 q2 q3 q4 ⊢
   by_cases hij : i < j
   ·obtain ⟨c, hcc⟩ : ∃ c, (i + j) / 2 = c := ⟨_, rfl⟩
    have j1 : I64 ((i : Int) + j) := by unfold I64; omega
    have j2 : I64 ((c : Int) + 1) := by unfold I64; omega
    have hu := iC (show i + j <= 4000000 by omega)
    have hd := iA hcc
    have hi := iB (show c <= 4000000 by omega)
    have hcN : c < N := by omega
    have haN : a < N := by omega
    have g1 := hg _ hcN
    have g2 := hg _ haN
    by_cases hcmp : cfS (f c) (f a) < 0
    ·simp [ac, ag, ae, am, ap, aa, au, ab, ao, ak, ah, ai, aj, hij, j1, j2, hu, hd, hi, hl, aZ, hcN, haN, aC hcN, aC haN, lG, g1, g2, hcmp]
     exact ⟨⟨c + 1, j⟩, hI.yes hij hcc (decide_eq_true hcmp), by simp only; omega, ar (by simp)⟩
    ·simp [ac, ag, ae, am, ap, aa, au, ab, ao, ak, ah, ai, aj, hij, j1, j2, hu, hd, hi, hl, aZ, hcN, haN, aC hcN, aC haN, lG, g1, g2, hcmp]
     exact ⟨⟨i, c⟩, hI.no hij hcc (decide_eq_false hcmp), by simp only; omega, ar (by simp)⟩
   ·have hi := hI.fin hij
    rw [<- hi] at hfin hbs
    have j3 : I64 ((i : Int) - 1) := by unfold I64; omega
    simp [ac, ag, ae, am, ap, aa, au, ab, ao, ak, ah, ai, aj, hij]
    refine aA (gJ  d ih) (gE  d ih) [11, 23] (λ q : Nat => ⟨[(0, .own l N), (10, .int .i64 i), (13, .int .i64 q)], H.set l (bS 272 N (bp f a (a + 1) (q + 1)))⟩) (λ q => a <= q /\ q + 1 <= i) (λ q => i - q) (by kernel_rfl) ⟨a, ⟨by omega, by omega⟩, by rw [oI]; exact ar (by simp)⟩ ?_
    rintro q ⟨r1, r2⟩
    by_cases hk : q + 1 < i
    ·have hk' : (q : Int) < i - 1 := by omega
     have j4 : I64 ((q : Int) + 1) := by unfold I64; omega
     have e4 : ((q : Int) + 1).toNat = q + 1 := by omega
     have n1 : q < N := by omega
     have n2 : q + 1 < N := by omega
     have hu : upF (upF (bp f a (a + 1) (q + 1)) q (bp f a (a + 1) (q + 1) (q + 1))) (q + 1) (bp f a (a + 1) (q + 1) q) = bp f a (a + 1) (q + 2) := by rw [jy, ib, D3 r1]
     simp [ac, ag, ae, am, ap, aa, au, ab, ao, ak, ah, ai, aj, j3, hk']
     refine aE (gJ  d ih) (gE  d ih) [.pure, .pure, .pure, .pure, .pure, .pure, .pure, .pure, .pure, .read, .pure, .pure, .pure, .read, .pure, .eff, .pure, .eff] [[],[],[],[],[3],[],[],[6],[6,7,5],[5,7,6,8],[],[],[11,10],[10,11,12],[12,11,10,13,9,8,7,6,5,1,0],[0,1,5,6,7,8,9,13,10,11,12,14],[15,14,13,12,11,10,9,8,7,6,5,1,0,3,4,2],[2,4,3,0,1,5,6,7,8,9,10,11,12,13,14,15,16]] (by kernel_rfl) (by kernel_rfl) (by kernel_rfl) (by kernel_rfl) ?_
     simp [ac, ag, ae, am, ap, aa, au, ab, ao, ak, ah, ai, aj, j4, e4, hl, n1, n2, aZ, aC n1, aC n2, Au, hu]
     refine ⟨by omega, ?_⟩
     exact ⟨q + 1, ⟨by omega, by omega⟩, by omega, ar (by simp)⟩
    ·have hk' : ¬ (q : Int) < i - 1 := by omega
     have e5 : tSy cfS [(a : Int), m, b] N f = bp f a (a + 1) (q + 1) := by
      show syC cfS a m b f = _
      rw [hfin, show q + 1 = i by omega, e0]
     simp [ac, ag, ae, am, ap, aa, au, ab, ao, ak, ah, ai, aj, j3, hk', e5]
     exact bf rfl ⟨trivial, rfl⟩
  ·have h1' : ¬ ((m : Int) - a = 1) := by omega
   by_cases h2 : b - m = 1
   ·have h2' : (b : Int) - m = 1 := by omega
    have e0 : b = m + 1 := by omega
    have hfin := uB (cf := cfS) (f := f) (show a < m by omega) h1 h2
    have hbs := dG (λ h => !decide (cfS (f m) (f h) < 0)) a m a m (le_refl _) (by omega) (le_refl _) (.inl rfl) (.inl rfl)
    simp [ac, ag, ae, am, ap, aa, au, ab, ao, ak, ah, ai, aj, argsρ, i1, i2, h1', h2', w1]
    refine aA (gJ  d ih) (gE  d ih) [11, 23] (λ x : PSt => ⟨[(0, .own l N), (2, .int .i64 m), (4, .fn 190 [.iptr aI]), (14, .int .i64 x.i), (15, .int .i64 x.j)], H.set l (bS 272 N f)⟩) (BsI (λ h => !decide (cfS (f m) (f h) < 0)) a m) (λ x => x.j - x.i) (by kernel_rfl) ⟨⟨a, m⟩, ⟨le_refl _, by simp only; omega, le_refl _, rfl⟩, ar (by simp)⟩ ?_
    rintro ⟨i, j⟩ hI
    have hI' := hI
    obtain ⟨q1, q2, q3, q4⟩ := hI'
    simp only at q1 q2 q3 q4 ⊢
    by_cases hij : i < j
    ·obtain ⟨c, hcc⟩ : ∃ c, (i + j) / 2 = c := ⟨_, rfl⟩
     have j1 : I64 ((i : Int) + j) := by unfold I64; omega
     have j2 : I64 ((c : Int) + 1) := by unfold I64; omega
     have hu := iC (show i + j <= 4000000 by omega)
     have hd := iA hcc
     have hi := iB (show c <= 4000000 by omega)
     have hcN : c < N := by omega
     have hmN : m < N := by omega
     have g1 := hg _ hcN
     have g2 := hg _ hmN
     by_cases hcmp : cfS (f m) (f c) < 0
     ·simp [ac, ag, ae, am, ap, aa, au, ab, ao, ak, ah, ai, aj, hij, j1, j2, hu, hd, hi, hl, aZ, hcN, hmN, aC hcN, aC hmN, lG, g1, g2, hcmp]
      exact ⟨⟨i, c⟩, hI.no hij hcc (by rw [decide_eq_true hcmp]; rfl), by simp only; omega, ar (by simp)⟩
     ·simp [ac, ag, ae, am, ap, aa, au, ab, ao, ak, ah, ai, aj, hij, j1, j2, hu, hd, hi, hl, aZ, hcN, hmN, aC hcN, aC hmN, lG, g1, g2, hcmp]
      exact ⟨⟨c + 1, j⟩, hI.yes hij hcc (by rw [decide_eq_false hcmp]; rfl), by simp only; omega, ar (by simp)⟩
    ·have hi := hI.fin hij
     rw [<- hi] at hfin hbs
     simp [ac, ag, ae, am, ap, aa, au, ab, ao, ak, ah, ai, aj, hij]
     refine aA (gJ  d ih) (gE  d ih) [11, 23] (λ q : Nat => ⟨[(0, .own l N), (14, .int .i64 i), (17, .int .i64 q)], H.set l (bS 272 N (bp f q m (m + 1)))⟩) (λ q => i <= q /\ q <= m) (λ q => q) (by kernel_rfl) ⟨m, ⟨by omega, by omega⟩, by rw [oH]; exact ar (by simp)⟩ ?_
     rintro q ⟨r1, r2⟩
     by_cases hk : i < q
     ·have j4 : I64 ((q : Int) - 1) := by unfold I64; omega
      have e4 : ((q : Int) - 1).toNat = q - 1 := by omega
      have n1 : q < N := by omega
      have n2 : q - 1 < N := by omega
      have hu : upF (upF (bp f q m (m + 1)) q (bp f q m (m + 1) (q - 1))) (q - 1) (bp f q m (m + 1) q) = bp f (q - 1) m (m + 1) := by rw [jy, ib, wU (by omega) r2]
      simp [ac, ag, ae, am, ap, aa, au, ab, ao, ak, ah, ai, aj, hk]
      refine aE (gJ  d ih) (gE  d ih) [.pure, .pure, .pure, .pure, .pure, .pure, .pure, .pure, .pure, .read, .pure, .pure, .pure, .read, .pure, .eff, .pure, .eff] [[],[],[],[],[3],[],[],[6],[6,7,5],[5,7,6,8],[],[],[11,10],[10,11,12],[12,11,10,13,9,8,7,6,5,1,0],[0,1,5,6,7,8,9,13,10,11,12,14],[15,14,13,12,11,10,9,8,7,6,5,1,0,3,4,2],[2,4,3,0,1,5,6,7,8,9,10,11,12,13,14,15,16]] (by kernel_rfl) (by kernel_rfl) (by kernel_rfl) (by kernel_rfl) ?_
      simp [ac, ag, ae, am, ap, aa, au, ab, ao, ak, ah, ai, aj, j4, e4, hl, n1, n2, aZ, aC n1, aC n2, Au, hu]
      refine ⟨by omega, ?_⟩
      exact ⟨q - 1, ⟨by omega, by omega⟩, by omega, ar (by simp; omega)⟩
     ·have e5 : tSy cfS [(a : Int), m, b] N f = bp f q m (m + 1) := by
       show syC cfS a m b f = _
       rw [hfin, show q = i by omega, e0]
      simp [ac, ag, ae, am, ap, aa, au, ab, ao, ak, ah, ai, aj, hk, e5]
      exact bf rfl ⟨trivial, rfl⟩
   ·have h2' : ¬ ((b : Int) - m = 1) := by omega
    obtain ⟨s, hs⟩ : ∃ s, mq cfS a m b f = s := ⟨_, rfl⟩
    obtain ⟨mid, hm⟩ : ∃ mid, (a + b) / 2 = mid := ⟨_, rfl⟩
    obtain ⟨e, he⟩ : ∃ e, mid + m - s = e := ⟨_, rfl⟩
    have hfin := qF (cf := cfS) (f := f) (show a < m by omega) h1 (show m < b by omega) h2 hs hm he
    obtain ⟨b1, b2, b3, b4⟩ := uC (cf := cfS) (f := f) (show a < m by omega) (show m < b by omega)
    rw [hs] at b1 b2 b3 b4
    rw [hm] at b3 b4
    have j1 : I64 ((a : Int) + b) := by unfold I64; omega
    have j2 : I64 ((mid : Int) + m) := by unfold I64; omega
    have j5 : I64 ((mid : Int) + m - b) := by unfold I64; omega
    have j6 : I64 ((mid : Int) + m - 1) := by unfold I64; omega
    have hu := iC (show a + b <= 4000000 by omega)
    have hd := iA hm
    have hi := iB (show mid <= 4000000 by omega)
    obtain ⟨lo, hi', hb, hlo⟩ : ∃ lo hi' : Nat, bsr (λ c => !decide (cfS (f (mid + m - 1 - c)) (f c) < 0)) lo hi' = s /\ ((mid < m /\ lo = mid + m - b /\ hi' = mid) ∨ (¬ mid < m /\ lo = a /\ hi' = m)) := by
     by_cases c : mid < m
     ·exact ⟨mid + m - b, mid, by rw [<- hs]; unfold mq; rw [hm, if_pos c, if_pos c], .inl ⟨c, rfl, rfl⟩⟩
     ·exact ⟨a, m, by rw [<- hs]; unfold mq; rw [hm, if_neg c, if_neg c], .inr ⟨c, rfl, rfl⟩⟩
    have hlh : lo <= hi' /\ hi' <= mid /\ hi' <= m := by omega
    have mv1 : Mv f (bp f s m e) a b := (kj (by omega) (by omega)).wide b1 (by omega)
    have hcg := mv1.can (show b <= N by omega) hc
    have hgg := mv1.good (show b <= N by omega) hg
    have hrot : ∀ x y z : Int, bj IS 272 190 [.iptr aI] gdS gt tRo [.own l N, .int .i64 x, .int .i64 y, .int .i64 z, .fn 190 [.iptr aI]] (H.set l ⟨272, 2, aq (lst N f), true, true⟩) = some (N <= 1000000 /\ (∀ k, k < N -> gdS (f k)) /\ gt [x, y, z] N, .tup [], (H.set l ⟨272, 2, aq (lst N f), true, true⟩).set l (bS 272 N (tRo [x, y, z] N f))) := λ x y z => j0 (fl hl) hc x y z
    have hsym : ∀ (u : Nat -> IS) (hu : Can N u) (x y z : Int), bj IS 272 190 [.iptr aI] gdS (bU d) (tSy cfS) [.own l N, .int .i64 x, .int .i64 y, .int .i64 z, .fn 190 [.iptr aI]] (H.set l ⟨272, 2, aq (lst N u), true, true⟩) = some (N <= 1000000 /\ (∀ k, k < N -> gdS (u k)) /\ bU d [x, y, z] N, .tup [], (H.set l ⟨272, 2, aq (lst N u), true, true⟩).set l (bS 272 N (tSy cfS [x, y, z] N u))) := λ u hu x y z => j0 (fl hl) hu x y z
    have mv2 : ∀ g : Nat -> IS, a < s /\ s < mid -> Mv g (syC cfS a s mid g) a b := λ g hh => (kv _ a s mid g (le_refl _) hh.1 hh.2).wide (le_refl _) (by omega)
    obtain ⟨w, hw⟩ : ∃ w, (if a < s /\ s < mid then syC cfS a s mid (bp f s m e) else bp f s m e) = w := ⟨_, rfl⟩
    have mvw : Mv (bp f s m e) w a b := by
     rw [<- hw]
     split
     ·rename_i hh; exact mv2 _ hh
     ·exact Mv.refl _ _ _
    have hcw := mvw.can (show b <= N by omega) hcg
    have hgw := mvw.good (show b <= N by omega) hgg
    rw [hw] at hfin
    have fin : ∀ ρ u, u = syC cfS a m b f -> kS (qR  d ih) 220 H.length [] (.tup []) (H.set l ⟨272, 2, aq (lst N (syC cfS a m b f)), true, true⟩) ⟨ρ, H.set l ⟨272, 2, aq (lst N u), true, true⟩⟩ := λ ρ u hu => by subst hu; exact bf rfl ⟨trivial, rfl⟩
    have hrotN : ¬ (s < m /\ m < e) -> bp f s m e = f := λ hh => by
     by_cases h5 : s < m
     ·have : m = e := by omega
      rw [<- this]; exact oI s m
     ·have : s = m := by omega
      rw [this]; exact oH m e
    rcases hlo with ⟨c, k1, k2⟩ | ⟨c, k1, k2⟩
    rotate_left
    ·have c' : ¬ ((mid : Int) < m) := by omega
     have eL : (lo : Int) = a := by omega
     have eR : (hi' : Int) = m := by omega
     simp [ac, ag, ae, am, ap, aa, au, ab, ao, ak, ah, ai, aj, argsρ, i1, i2, h1', h2', j1, j2, j5, j6, hu, hd, hi, c']
     refine aA (gJ  d ih) (gE  d ih) [11, 23] (λ x : PSt => ⟨[(0, .own l N), (1, .int .i64 a), (2, .int .i64 m), (3, .int .i64 b), (4, .fn 190 [.iptr aI]), (18, .int .i64 mid), (19, .int .i64 ((mid : Int) + m)), (20, .int .i64 x.i), (21, .int .i64 x.j), (22, .int .i64 ((mid : Int) + m - 1))], H.set l (bS 272 N f)⟩) (BsI (λ c => !decide (cfS (f (mid + m - 1 - c)) (f c) < 0)) lo hi') (λ x => x.j - x.i) (by kernel_rfl) ⟨⟨lo, hi'⟩, ⟨le_refl _, hlh.1, le_refl _, rfl⟩, ar (by simp [eL, eR])⟩ ?_
     rintro ⟨i, j⟩ hI
     have hI' := hI
     obtain ⟨q1, q2, q3, q4⟩ := hI'
     simp only at q1 q2 q3 q4 ⊢
     by_cases hij : i < j
     ·obtain ⟨c, hcc⟩ : ∃ c, (i + j) / 2 = c := ⟨_, rfl⟩
      have t1 : I64 ((i : Int) + j) := by unfold I64; omega
      have t2 : I64 ((c : Int) + 1) := by unfold I64; omega
      have t3 : I64 ((mid : Int) + m - 1 - c) := by unfold I64; omega
      have t4 : ((mid : Int) + m - 1 - c).toNat = mid + m - 1 - c := by omega
      have hu := iC (show i + j <= 4000000 by omega)
      have hd := iA hcc
      have hi := iB (show c <= 4000000 by omega)
      have hcN : c < N := by omega
      have hpN : mid + m - 1 - c < N := by omega
      have g1 := hg _ hcN
      have g2 := hg _ hpN
      by_cases hcmp : cfS (f (mid + m - 1 - c)) (f c) < 0
      ·simp [ac, ag, ae, am, ap, aa, au, ab, ao, ak, ah, ai, aj, hij, t1, t2, t3, t4, hu, hd, hi, hl, aZ, hcN, hpN, aC hcN, aC hpN, lG, g1, g2, hcmp]
       refine ⟨by omega, ?_⟩
       exact ⟨⟨i, c⟩, hI.no hij hcc (by rw [decide_eq_true hcmp]; rfl), by simp only; omega, ar (by simp)⟩
      ·simp [ac, ag, ae, am, ap, aa, au, ab, ao, ak, ah, ai, aj, hij, t1, t2, t3, t4, hu, hd, hi, hl, aZ, hcN, hpN, aC hcN, aC hpN, lG, g1, g2, hcmp]
       refine ⟨by omega, ?_⟩
       exact ⟨⟨c + 1, j⟩, hI.yes hij hcc (by rw [decide_eq_false hcmp]; rfl), by simp only; omega, ar (by simp)⟩
     ·have his := hI.fin hij
      rw [hb] at his
      subst his
      have t5 : I64 ((mid : Int) + m - i) := by unfold I64; omega
      have t6 : (mid : Int) + m - i = e := by omega
      have t7 : I64 (e : Int) := by unfold I64; omega
      have fin' : ∀ ρ u, u = syC cfS a m b f -> kS (qR  d ih) 220 H.length [] (.tup []) (H.set l ⟨272, 2, aq (lst N (tSy cfS [(a : Int), m, b] N f)), true, true⟩) ⟨ρ, H.set l ⟨272, 2, aq (lst N u), true, true⟩⟩ := fin
      obtain ⟨g, hgd⟩ : ∃ g, bp f i m e = g := ⟨_, rfl⟩
      rw [hgd] at hcg hgg hw hrotN
      have E1 : m < e ↔ i < mid := by omega
      have E2 : mid < e ↔ i < m := by omega
      by_cases P : i < m <;> by_cases Q : i < mid
      all_goals first
       | (have hgf : f = g := (hrotN (by omega)).symm
          subst hgf)
       | skip
      all_goals by_cases C : a < i <;> by_cases F : e < b
      all_goals simp only [P, Q, C, true_and, and_true, false_and, and_false, if_true, if_false, not_true, not_false_iff] at hw
      all_goals first
       | (subst hw)
       | skip
      all_goals simp only [E2, P, F, true_and, and_true, false_and, and_false, if_true, if_false] at hfin
      all_goals simp [ac, ag, ae, am, ap, aa, au, ab, ao, ak, ah, ai, aj, hij, t5, t6, t7, P, Q, C, F, E1, E2, hrot, gt, tRo, hgd, hsym f hc, hsym _ hcg, hsym _ hcw, bU, tSy]
      all_goals repeat' (first | exact hN | exact hg | exact hgg | exact hgw | (refine fin' _ _ ?_) | (refine And.intro ?_ ?_))
      all_goals first | omega | exact hfin.symm
    ·have c' : ((mid : Int) < m) := by omega
     have eL : (lo : Int) = (mid : Int) + m - b := by omega
     have eR : (hi' : Int) = mid := by omega
     simp [ac, ag, ae, am, ap, aa, au, ab, ao, ak, ah, ai, aj, argsρ, i1, i2, h1', h2', j1, j2, j5, j6, hu, hd, hi, c']
     refine aA (gJ  d ih) (gE  d ih) [11, 23] (λ x : PSt => ⟨[(0, .own l N), (1, .int .i64 a), (2, .int .i64 m), (3, .int .i64 b), (4, .fn 190 [.iptr aI]), (18, .int .i64 mid), (19, .int .i64 ((mid : Int) + m)), (20, .int .i64 x.i), (21, .int .i64 x.j), (22, .int .i64 ((mid : Int) + m - 1))], H.set l (bS 272 N f)⟩) (BsI (λ c => !decide (cfS (f (mid + m - 1 - c)) (f c) < 0)) lo hi') (λ x => x.j - x.i) (by kernel_rfl) ⟨⟨lo, hi'⟩, ⟨le_refl _, hlh.1, le_refl _, rfl⟩, ar (by simp [eL, eR])⟩ ?_
     rintro ⟨i, j⟩ hI
     have hI' := hI
     obtain ⟨q1, q2, q3, q4⟩ := hI'
     simp only at q1 q2 q3 q4 ⊢
     by_cases hij : i < j
     ·obtain ⟨c, hcc⟩ : ∃ c, (i + j) / 2 = c := ⟨_, rfl⟩
      have t1 : I64 ((i : Int) + j) := by unfold I64; omega
      have t2 : I64 ((c : Int) + 1) := by unfold I64; omega
      have t3 : I64 ((mid : Int) + m - 1 - c) := by unfold I64; omega
      have t4 : ((mid : Int) + m - 1 - c).toNat = mid + m - 1 - c := by omega
      have hu := iC (show i + j <= 4000000 by omega)
      have hd := iA hcc
      have hi := iB (show c <= 4000000 by omega)
      have hcN : c < N := by omega
      have hpN : mid + m - 1 - c < N := by omega
      have g1 := hg _ hcN
      have g2 := hg _ hpN
      by_cases hcmp : cfS (f (mid + m - 1 - c)) (f c) < 0
      ·simp [ac, ag, ae, am, ap, aa, au, ab, ao, ak, ah, ai, aj, hij, t1, t2, t3, t4, hu, hd, hi, hl, aZ, hcN, hpN, aC hcN, aC hpN, lG, g1, g2, hcmp]
       refine ⟨by omega, ?_⟩
       exact ⟨⟨i, c⟩, hI.no hij hcc (by rw [decide_eq_true hcmp]; rfl), by simp only; omega, ar (by simp)⟩
      ·simp [ac, ag, ae, am, ap, aa, au, ab, ao, ak, ah, ai, aj, hij, t1, t2, t3, t4, hu, hd, hi, hl, aZ, hcN, hpN, aC hcN, aC hpN, lG, g1, g2, hcmp]
       refine ⟨by omega, ?_⟩
       exact ⟨⟨c + 1, j⟩, hI.yes hij hcc (by rw [decide_eq_false hcmp]; rfl), by simp only; omega, ar (by simp)⟩
     ·have his := hI.fin hij
      rw [hb] at his
      subst his
      have t5 : I64 ((mid : Int) + m - i) := by unfold I64; omega
      have t6 : (mid : Int) + m - i = e := by omega
      have t7 : I64 (e : Int) := by unfold I64; omega
      have fin' : ∀ ρ u, u = syC cfS a m b f -> kS (qR  d ih) 220 H.length [] (.tup []) (H.set l ⟨272, 2, aq (lst N (tSy cfS [(a : Int), m, b] N f)), true, true⟩) ⟨ρ, H.set l ⟨272, 2, aq (lst N u), true, true⟩⟩ := fin
      obtain ⟨g, hgd⟩ : ∃ g, bp f i m e = g := ⟨_, rfl⟩
      rw [hgd] at hcg hgg hw hrotN
      have E1 : m < e ↔ i < mid := by omega
      have E2 : mid < e ↔ i < m := by omega
      by_cases P : i < m <;> by_cases Q : i < mid
      all_goals first
       | (have hgf : f = g := (hrotN (by omega)).symm
          subst hgf)
       | skip
      all_goals by_cases C : a < i <;> by_cases F : e < b
      all_goals simp only [P, Q, C, true_and, and_true, false_and, and_false, if_true, if_false, not_true, not_false_iff] at hw
      all_goals first
       | (subst hw)
       | skip
      all_goals simp only [E2, P, F, true_and, and_true, false_and, and_false, if_true, if_false] at hfin
      all_goals simp [ac, ag, ae, am, ap, aa, au, ab, ao, ak, ah, ai, aj, hij, t5, t6, t7, P, Q, C, F, E1, E2, hrot, gt, tRo, hgd, hsym f hc, hsym _ hcg, hsym _ hcw, bU, tSy]
      all_goals repeat' (first | exact hN | exact hg | exact hgg | exact hgw | (refine fin' _ _ ?_) | (refine And.intro ?_ ?_))
      all_goals first | omega | exact hfin.symm
def iq : List Int -> Nat -> Prop
 | [n], N => n = N
 | _, _ => False
def tSt {α : Type} (cf : α -> α -> Int) : List Int -> Nat -> (Nat -> α) -> (Nat -> α)
 | [_], N, f => qw cf N f
 | _, _, f => f
def ip : List Int -> Nat -> Prop
 | [], _ => True
 | _, _ => False
def tS0 {α : Type} (cf : α -> α -> Int) (_ : List Int) (N : Nat) (f : Nat -> α) : Nat -> α := qw cf N f
theorem one {is : List Int} {p : List Int -> Nat -> Prop} {N : Nat} (h : p is N) (hp : ∀ is, is.length ≠ 1 -> ¬ p is N) : ∃ a, is = [a] := by
 match is, h with
 | [a], _ => exact ⟨a, rfl⟩
 | [], h => exact absurd h (hp _ (by simp))
 | _ :: _ :: _, h => exact absurd h (hp _ (by simp))
structure LSt (α : Type) where
 a : Nat
 k : Nat
 g : Nat -> α
structure BlkI {α : Type} [Inhabited α] (cf : α -> α -> Int) (N : Nat) (f : Nat -> α) (good : α -> Prop) (x : LSt α) : Prop where
 le : x.a <= N
 fuel : N + 1 <= x.k + x.a
 can : Can N x.g
 good : ∀ k, k < N -> good (x.g k)
 eq : pr cf 20 N x.k x.a x.g = pr cf 20 N (N + 1) 0 f
structure MrgI {α : Type} [Inhabited α] (cf : α -> α -> Int) (bs N : Nat) (f : Nat -> α) (good : α -> Prop) (x : LSt α) : Prop where
 le : x.a <= N
 fuel : N + 1 <= x.k + x.a
 can : Can N x.g
 good : ∀ k, k < N -> good (x.g k)
 eq : tS cf bs N x.k x.a x.g = tS cf bs N (N + 1) 0 f
structure DblI {α : Type} [Inhabited α] (cf : α -> α -> Int) (N : Nat) (F : Nat -> α) (good : α -> Prop) (x : LSt α) : Prop where
 lo : 20 <= x.a
 hi : x.a <= 2 * N + 20
 fuel : N + 1 <= x.k + x.a
 can : Can N x.g
 good : ∀ k, k < N -> good (x.g k)
 eq : lS cf N x.k x.a x.g = F
theorem tT {α : Type} {cf : α -> α -> Int} {N a m b : Nat} {f : Nat -> α} (h1 : a < m) (h2 : m < b) (h3 : b <= N) : fw cf N a m b f = syC cf a m b f := kw _ _ a m b f h1 h2 (by omega) (le_refl _)
noncomputable def Ch (k : Int) : Ctx := mkC prog G0 [(311, .gen (bj (IR k) 79 122 [] gdR dX (tIn cfR))), (312, .gen (bj (IR k) 79 122 [] gdR (bU 1000000) (tSy cfR)))]
@[simp] theorem QG (k : Int) : (Ch k).S 311 = .gen (bj (IR k) 79 122 [] gdR dX (tIn cfR)) := rfl
@[simp] theorem QH (k : Int) : (Ch k).S 312 = .gen (bj (IR k) 79 122 [] gdR (bU 1000000) (tSy cfR)) := rfl
theorem oA (k : Int) : (Ch k).P.follows .mixedOrders = true := mixed
theorem oM (k : Int) : aB (Ch k) := aD (aF ((RW k)) func311 rfl (by decide)) (aD (aF ((O0 k 1000000)) func312 rfl (by decide)) (ax _ _))
theorem SH (k : Int) : bg prog G0 241 (bj (IR k) 79 122 [] gdR iq (tSt cfR)) := by
 refine c9 λ H l N f is hl hc hN hg hp => ?_
 obtain ⟨n, rfl⟩ := one hp (λ is h hh => by unfold iq at hh; split at hh <;> simp at h hh)
 obtain rfl : n = N := hp
 have hins : ∀ (u : Nat -> (IR k)) (hu : Can N u) (x y : Int), bj (IR k) 79 122 [] gdR dX (tIn cfR) [.own l N, .int .i64 x, .int .i64 y, .fn 122 []] (H.set l ⟨79, 1, aq (lst N u), true, true⟩) = some (N <= 1000000 /\ (∀ k, k < N -> gdR (u k)) /\ dX [x, y] N, .tup [], (H.set l ⟨79, 1, aq (lst N u), true, true⟩).set l (bS 79 N (tIn cfR [x, y] N u))) := λ u hu x y => x6 (fl hl) hu x y
 have hsym : ∀ (u : Nat -> (IR k)) (hu : Can N u) (x y z : Int), bj (IR k) 79 122 [] gdR (bU 1000000) (tSy cfR) [.own l N, .int .i64 x, .int .i64 y, .int .i64 z, .fn 122 []] (H.set l ⟨79, 1, aq (lst N u), true, true⟩) = some (N <= 1000000 /\ (∀ k, k < N -> gdR (u k)) /\ bU 1000000 [x, y, z] N, .tup [], (H.set l ⟨79, 1, aq (lst N u), true, true⟩).set l (bS 79 N (tSy cfR [x, y, z] N u))) := λ u hu x y z => j0 (fl hl) hu x y z
 refine cP (C := Ch k) func241 rfl rfl rfl (by show 3 <= _; decide) (ay (oM k) (oA k) (hd := []) _ (by kernel_rfl) ?_)
 simp [ac, ag, ae, am, ap, aa, au, ab, ao, ak, ah, ai, aj, argsρ]
 refine aA (oM k) (oA k) [] (λ x : LSt (IR k) => ⟨[(0, .own l N), (1, .int .i64 N), (2, .fn 122 []), (6, .int .i64 20), (7, .int .i64 x.a), (8, .int .i64 ((x.a : Int) + 20))], H.set l (bS 79 N x.g)⟩) (BlkI cfR N f gdR) (λ x => N - x.a) (by kernel_rfl) ⟨⟨0, N + 1, f⟩, ⟨zero_le _, by simp, hc, hg, rfl⟩, ar (by simp)⟩ ?_
 rintro ⟨a, q, g⟩ ⟨q1, q2, q3, q4, q5⟩
 simp only at q1 q2 q3 q4 q5 ⊢
 obtain ⟨q, rfl⟩ : ∃ q', q = q' + 1 := ⟨q - 1, by omega⟩
 rw [pr] at q5
 by_cases hle : a + 20 <= N
 ·have hle' : (a : Int) + 20 <= N := by omega
  have j1 : I64 ((a : Int) + 20 + 20) := by unfold I64; omega
  have e1 : ((a : Int) + 20).toNat = a + 20 := by omega
  rw [if_pos hle] at q5
  have mv := lZ (cf := cfR) (a := a) (k := 19) (i := a + 1) (f := g) (by omega)
  rw [show 20 - 1 = 19 from rfl] at q5
  obtain ⟨u, hu⟩ : ∃ u, fW cfR a (a + 1) 19 g = u := ⟨_, rfl⟩
  rw [hu] at mv q5
  have hcu := mv.can (by omega) q3
  have hgu := mv.good (by omega) q4
  simp [ac, ag, ae, am, ap, aa, au, ab, ao, ak, ah, ai, aj, hle', j1, hins _ q3, dX, tIn, e1, hu]
  exact ⟨⟨hN, q4, by omega⟩, ⟨a + 20, q, u⟩, ⟨hle, by simp only; omega, hcu, hgu, q5⟩, by simp only; omega, ar (by simp)⟩
 ·have hle' : ¬ (a : Int) + 20 <= N := by omega
  rw [if_neg hle] at q5
  have mv := lZ (cf := cfR) (a := a) (k := N - a - 1) (i := a + 1) (f := g) (by omega)
  obtain ⟨B, hB⟩ : ∃ B, fW cfR a (a + 1) (N - a - 1) g = B := ⟨_, rfl⟩
  have hcB : Can N B := by
   rw [<- hB]
   by_cases h0 : a < N
   ·exact mv.can (by omega) q3
   ·rw [show N - a - 1 = 0 by omega]; exact q3
  have hgB : ∀ k, k < N -> gdR (B k) := by
   rw [<- hB]
   by_cases h0 : a < N
   ·exact mv.good (by omega) q4
   ·rw [show N - a - 1 = 0 by omega]; exact q4
  rw [hB] at q5
  have hfin : lS cfR N (N + 1) 20 B = qw cfR N f := by rw [q5]; rfl
  simp [ac, ag, ae, am, ap, aa, au, ab, ao, ak, ah, ai, aj, hle', hins _ q3, dX, tIn, hB]
  refine ⟨⟨hN, q4, by omega⟩, ?_⟩
  obtain ⟨F, hF⟩ : ∃ F, qw cfR N f = F := ⟨_, rfl⟩
  rw [hF] at hfin
  have e9 : tSt cfR [(N : Int)] N f = F := hF
  rw [e9]
  refine aA (oM k) (oA k) [] (λ x : LSt (IR k) => ⟨[(0, .own l N), (1, .int .i64 N), (2, .fn 122 []), (6, .int .i64 x.a)], H.set l (bS 79 N x.g)⟩) (DblI cfR N F gdR) (λ x => N - x.a) (by kernel_rfl) ⟨⟨20, N + 1, B⟩, ⟨le_refl _, by simp only; omega, by simp only; omega, hcB, hgB, hfin⟩, ar (by simp)⟩ ?_
  rintro ⟨bs, q, g⟩ ⟨q1, q2, q3, q4, q5, q6⟩
  simp only at q1 q2 q3 q4 q5 q6 ⊢
  have hq : bs < N -> ∃ q', q = q' + 1 := λ h => ⟨q - 1, by omega⟩
  by_cases hb : bs < N
  ·obtain ⟨q, rfl⟩ := hq hb
   rw [lS, if_pos hb] at q6
   have hb' : (bs : Int) < N := by omega
   have j1 : I64 (2 * (bs : Int)) := by unfold I64; omega
   simp [ac, ag, ae, am, ap, aa, au, ab, ao, ak, ah, ai, aj, hb', j1]
   refine aA (oM k) (oA k) [] (λ x : LSt (IR k) => ⟨[(0, .own l N), (1, .int .i64 N), (2, .fn 122 []), (6, .int .i64 bs), (7, .int .i64 x.a), (8, .int .i64 ((x.a : Int) + 2 * bs))], H.set l (bS 79 N x.g)⟩) (MrgI cfR bs N g gdR) (λ x => N - x.a) (by kernel_rfl) ⟨⟨0, N + 1, g⟩, ⟨zero_le _, by simp, q4, q5, rfl⟩, ar (by simp)⟩ ?_
   rintro ⟨a, p, u⟩ ⟨r1, r2, r3, r4, r5⟩
   simp only at r1 r2 r3 r4 r5 ⊢
   obtain ⟨p, rfl⟩ : ∃ p', p = p' + 1 := ⟨p - 1, by omega⟩
   rw [tS] at r5
   have j2 : I64 ((a : Int) + bs) := by unfold I64; omega
   have e2 : ((a : Int) + bs).toNat = a + bs := by omega
   by_cases hle : a + 2 * bs <= N
   ·have hle' : (a : Int) + 2 * bs <= N := by omega
    have j3 : I64 ((a : Int) + 2 * bs + 2 * bs) := by unfold I64; omega
    have e3 : ((a : Int) + 2 * bs).toNat = a + 2 * bs := by omega
    rw [if_pos hle, tT (by omega) (by omega) hle] at r5
    have mv := kv (cf := cfR) _ a (a + bs) (a + 2 * bs) u (le_refl _) (by omega) (by omega)
    obtain ⟨v, hv⟩ : ∃ v, syC cfR a (a + bs) (a + 2 * bs) u = v := ⟨_, rfl⟩
    rw [hv] at mv r5
    have hcv := mv.can hle r3
    have hgv := mv.good hle r4
    simp [ac, ag, ae, am, ap, aa, au, ab, ao, ak, ah, ai, aj, hle', j1, j2, j3, hsym _ r3, bU, tSy, e2, e3, hv]
    exact ⟨⟨hN, r4, by omega⟩, ⟨a + 2 * bs, p, v⟩, ⟨hle, by simp only; omega, hcv, hgv, r5⟩, by simp only; omega, ar (by simp)⟩
   ·have hle' : ¬ (a : Int) + 2 * bs <= N := by omega
    rw [if_neg hle] at r5
    have j4 : I64 ((bs : Int) * 2) := by unfold I64; omega
    by_cases hm : a + bs < N
    ·have hm' : (a : Int) + bs < N := by omega
     rw [if_pos hm, tT (by omega) hm (le_refl _)] at r5
     have mv := kv (cf := cfR) _ a (a + bs) N u (le_refl _) (by omega) (by omega)
     obtain ⟨v, hv⟩ : ∃ v, syC cfR a (a + bs) N u = v := ⟨_, rfl⟩
     rw [hv] at mv r5
     have hcv := mv.can (le_refl _) r3
     have hgv := mv.good (le_refl _) r4
     rw [<- r5] at q6
     simp [ac, ag, ae, am, ap, aa, au, ab, ao, ak, ah, ai, aj, hle', hm', j1, j2, j4, hsym _ r3, bU, tSy, e2, hv]
     exact ⟨⟨hN, r4, by omega⟩, ⟨2 * bs, q, v⟩, ⟨by simp only; omega, by simp only; omega, by simp only; omega, hcv, hgv, q6⟩, by simp only; omega, ar (by simp; omega)⟩
    ·have hm' : ¬ (a : Int) + bs < N := by omega
     rw [if_neg hm] at r5
     subst r5
     simp [ac, ag, ae, am, ap, aa, au, ab, ao, ak, ah, ai, aj, hle', hm', j1, j2, j4]
     exact ⟨⟨2 * bs, q, _⟩, ⟨by simp only; omega, by simp only; omega, by simp only; omega, r3, r4, q6⟩, by simp only; omega, ar (by simp; omega)⟩
  ·have hb' : ¬ (bs : Int) < N := by omega
   have e8 : g = F := by
    rw [<- q6]
    cases q with
    | zero => rfl
    | succ q => rw [lS, if_neg hb]
   simp [ac, ag, ae, am, ap, aa, au, ab, ao, ak, ah, ai, aj, hb', e8]
   exact bf rfl ⟨trivial, rfl⟩
noncomputable def Ci (k : Int) : Ctx := mkC prog G0 [(241, .gen (bj (IR k) 79 122 [] gdR iq (tSt cfR)))]
@[simp] theorem QP (k : Int) : (Ci k).P = prog := rfl
@[simp] theorem QO (k : Int) : (Ci k).S 241 = .gen (bj (IR k) 79 122 [] gdR iq (tSt cfR)) := rfl
theorem GD (k : Int) : (Ci k).P.follows .mixedOrders = true := mixed
theorem HF (k : Int) : aB (Ci k) := aD (aF ((SH k)) func241 rfl (by decide)) (ax _ _)
theorem SC (k : Int) : bg prog G0 177 (bj (IR k) 79 122 [] gdR ip (tS0 cfR)) := by
 refine c9 λ H l N f is hl hc hN hg hp => ?_
 obtain rfl : is = [] := by cases is with | nil => rfl | cons => exact hp.elim
 have hst : ∀ (x : Int), bj (IR k) 79 122 [] gdR iq (tSt cfR) [.own l N, .int .i64 x, .fn 122 []] (H.set l ⟨79, 1, aq (lst N f), true, true⟩) = some (N <= 1000000 /\ (∀ k, k < N -> gdR (f k)) /\ iq [x] N, .tup [], (H.set l ⟨79, 1, aq (lst N f), true, true⟩).set l (bS 79 N (tSt cfR [x] N f))) := λ x => x5 (fl hl) hc x
 refine cP (C := Ci k) func177 rfl rfl rfl (by show 2 <= _; decide) (ay (HF k) (GD k) (hd := []) _ (by kernel_rfl) ?_)
 simp [ac, ag, ae, am, ap, aa, au, ab, ao, ak, ah, ai, aj, argsρ, hst, iq]
 exact ⟨⟨hN, hg⟩, bf rfl ⟨trivial, rfl⟩⟩
noncomputable def CYtS : Ctx := mkC prog G0 [(333, .gen (bj IS 272 190 [.iptr aI] gdS dX (tIn cfS))), (334, .gen (bj IS 272 190 [.iptr aI] gdS (bU 1000000) (tSy cfS)))]
@[simp] theorem QK : CYtS.P = prog := rfl
@[simp] theorem QJ : CYtS.G = G0 := rfl
@[simp] theorem QI : CYtS.S 333 = .gen (bj IS 272 190 [.iptr aI] gdS dX (tIn cfS)) /\ CYtS.S 334 = .gen (bj IS 272 190 [.iptr aI] gdS (bU 1000000) (tSy cfS)) := ⟨rfl, rfl⟩
theorem oO : aB CYtS := aD (aF ((RY )) func333 rfl (by decide)) (aD (aF ((O1  1000000)) func334 rfl (by decide)) (ax _ _))
theorem SI  : bg prog G0 259 (bj IS 272 190 [.iptr aI] gdS iq (tSt cfS)) := by
 refine c9 λ H l N f is hl hc hN hg hp => ?_
 obtain ⟨n, rfl⟩ := one hp (λ is h hh => by unfold iq at hh; split at hh <;> simp at h hh)
 obtain rfl : n = N := hp
 have hins : ∀ (u : Nat -> IS) (hu : Can N u) (x y : Int), bj IS 272 190 [.iptr aI] gdS dX (tIn cfS) [.own l N, .int .i64 x, .int .i64 y, .fn 190 [.iptr aI]] (H.set l ⟨272, 2, aq (lst N u), true, true⟩) = some (N <= 1000000 /\ (∀ k, k < N -> gdS (u k)) /\ dX [x, y] N, .tup [], (H.set l ⟨272, 2, aq (lst N u), true, true⟩).set l (bS 272 N (tIn cfS [x, y] N u))) := λ u hu x y => x6 (fl hl) hu x y
 have hsym : ∀ (u : Nat -> IS) (hu : Can N u) (x y z : Int), bj IS 272 190 [.iptr aI] gdS (bU 1000000) (tSy cfS) [.own l N, .int .i64 x, .int .i64 y, .int .i64 z, .fn 190 [.iptr aI]] (H.set l ⟨272, 2, aq (lst N u), true, true⟩) = some (N <= 1000000 /\ (∀ k, k < N -> gdS (u k)) /\ bU 1000000 [x, y, z] N, .tup [], (H.set l ⟨272, 2, aq (lst N u), true, true⟩).set l (bS 272 N (tSy cfS [x, y, z] N u))) := λ u hu x y z => j0 (fl hl) hu x y z
 refine cP (C := CYtS ) func259 rfl rfl rfl (by show 3 <= _; decide) (ay (oO ) mixed (hd := []) _ (by kernel_rfl) ?_)
 simp [ac, ag, ae, am, ap, aa, au, ab, ao, ak, ah, ai, aj, argsρ]
 refine aA (oO ) mixed [] (λ x : LSt IS => ⟨[(0, .own l N), (1, .int .i64 N), (2, .fn 190 [.iptr aI]), (6, .int .i64 20), (7, .int .i64 x.a), (8, .int .i64 ((x.a : Int) + 20))], H.set l (bS 272 N x.g)⟩) (BlkI cfS N f gdS) (λ x => N - x.a) (by kernel_rfl) ⟨⟨0, N + 1, f⟩, ⟨zero_le _, by simp, hc, hg, rfl⟩, ar (by simp)⟩ ?_
 rintro ⟨a, q, g⟩ ⟨q1, q2, q3, q4, q5⟩
 simp only at q1 q2 q3 q4 q5 ⊢
 obtain ⟨q, rfl⟩ : ∃ q', q = q' + 1 := ⟨q - 1, by omega⟩
 rw [pr] at q5
 by_cases hle : a + 20 <= N
 ·have hle' : (a : Int) + 20 <= N := by omega
  have j1 : I64 ((a : Int) + 20 + 20) := by unfold I64; omega
  have e1 : ((a : Int) + 20).toNat = a + 20 := by omega
  rw [if_pos hle] at q5
  have mv := lZ (cf := cfS) (a := a) (k := 19) (i := a + 1) (f := g) (by omega)
  rw [show 20 - 1 = 19 from rfl] at q5
  obtain ⟨u, hu⟩ : ∃ u, fW cfS a (a + 1) 19 g = u := ⟨_, rfl⟩
  rw [hu] at mv q5
  have hcu := mv.can (by omega) q3
  have hgu := mv.good (by omega) q4
  simp [ac, ag, ae, am, ap, aa, au, ab, ao, ak, ah, ai, aj, hle', j1, hins _ q3, dX, tIn, e1, hu]
  exact ⟨⟨hN, q4, by omega⟩, ⟨a + 20, q, u⟩, ⟨hle, by simp only; omega, hcu, hgu, q5⟩, by simp only; omega, ar (by simp)⟩
 ·have hle' : ¬ (a : Int) + 20 <= N := by omega
  rw [if_neg hle] at q5
  have mv := lZ (cf := cfS) (a := a) (k := N - a - 1) (i := a + 1) (f := g) (by omega)
  obtain ⟨B, hB⟩ : ∃ B, fW cfS a (a + 1) (N - a - 1) g = B := ⟨_, rfl⟩
  have hcB : Can N B := by
   rw [<- hB]
   by_cases h0 : a < N
   ·exact mv.can (by omega) q3
   ·rw [show N - a - 1 = 0 by omega]; exact q3
  have hgB : ∀ k, k < N -> gdS (B k) := by
   rw [<- hB]
   by_cases h0 : a < N
   ·exact mv.good (by omega) q4
   ·rw [show N - a - 1 = 0 by omega]; exact q4
  rw [hB] at q5
  have hfin : lS cfS N (N + 1) 20 B = qw cfS N f := by rw [q5]; rfl
  simp [ac, ag, ae, am, ap, aa, au, ab, ao, ak, ah, ai, aj, hle', hins _ q3, dX, tIn, hB]
  refine ⟨⟨hN, q4, by omega⟩, ?_⟩
  obtain ⟨F, hF⟩ : ∃ F, qw cfS N f = F := ⟨_, rfl⟩
  rw [hF] at hfin
  have e9 : tSt cfS [(N : Int)] N f = F := hF
  rw [e9]
  refine aA (oO ) mixed [] (λ x : LSt IS => ⟨[(0, .own l N), (1, .int .i64 N), (2, .fn 190 [.iptr aI]), (6, .int .i64 x.a)], H.set l (bS 272 N x.g)⟩) (DblI cfS N F gdS) (λ x => N - x.a) (by kernel_rfl) ⟨⟨20, N + 1, B⟩, ⟨le_refl _, by simp only; omega, by simp only; omega, hcB, hgB, hfin⟩, ar (by simp)⟩ ?_
  rintro ⟨bs, q, g⟩ ⟨q1, q2, q3, q4, q5, q6⟩
  simp only at q1 q2 q3 q4 q5 q6 ⊢
  have hq : bs < N -> ∃ q', q = q' + 1 := λ h => ⟨q - 1, by omega⟩
  by_cases hb : bs < N
  ·obtain ⟨q, rfl⟩ := hq hb
   rw [lS, if_pos hb] at q6
   have hb' : (bs : Int) < N := by omega
   have j1 : I64 (2 * (bs : Int)) := by unfold I64; omega
   simp [ac, ag, ae, am, ap, aa, au, ab, ao, ak, ah, ai, aj, hb', j1]
   refine aA (oO ) mixed [] (λ x : LSt IS => ⟨[(0, .own l N), (1, .int .i64 N), (2, .fn 190 [.iptr aI]), (6, .int .i64 bs), (7, .int .i64 x.a), (8, .int .i64 ((x.a : Int) + 2 * bs))], H.set l (bS 272 N x.g)⟩) (MrgI cfS bs N g gdS) (λ x => N - x.a) (by kernel_rfl) ⟨⟨0, N + 1, g⟩, ⟨zero_le _, by simp, q4, q5, rfl⟩, ar (by simp)⟩ ?_
   rintro ⟨a, p, u⟩ ⟨r1, r2, r3, r4, r5⟩
   simp only at r1 r2 r3 r4 r5 ⊢
   obtain ⟨p, rfl⟩ : ∃ p', p = p' + 1 := ⟨p - 1, by omega⟩
   rw [tS] at r5
   have j2 : I64 ((a : Int) + bs) := by unfold I64; omega
   have e2 : ((a : Int) + bs).toNat = a + bs := by omega
   by_cases hle : a + 2 * bs <= N
   ·have hle' : (a : Int) + 2 * bs <= N := by omega
    have j3 : I64 ((a : Int) + 2 * bs + 2 * bs) := by unfold I64; omega
    have e3 : ((a : Int) + 2 * bs).toNat = a + 2 * bs := by omega
    rw [if_pos hle, tT (by omega) (by omega) hle] at r5
    have mv := kv (cf := cfS) _ a (a + bs) (a + 2 * bs) u (le_refl _) (by omega) (by omega)
    obtain ⟨v, hv⟩ : ∃ v, syC cfS a (a + bs) (a + 2 * bs) u = v := ⟨_, rfl⟩
    rw [hv] at mv r5
    have hcv := mv.can hle r3
    have hgv := mv.good hle r4
    simp [ac, ag, ae, am, ap, aa, au, ab, ao, ak, ah, ai, aj, hle', j1, j2, j3, hsym _ r3, bU, tSy, e2, e3, hv]
    exact ⟨⟨hN, r4, by omega⟩, ⟨a + 2 * bs, p, v⟩, ⟨hle, by simp only; omega, hcv, hgv, r5⟩, by simp only; omega, ar (by simp)⟩
   ·have hle' : ¬ (a : Int) + 2 * bs <= N := by omega
    rw [if_neg hle] at r5
    have j4 : I64 ((bs : Int) * 2) := by unfold I64; omega
    by_cases hm : a + bs < N
    ·have hm' : (a : Int) + bs < N := by omega
     rw [if_pos hm, tT (by omega) hm (le_refl _)] at r5
     have mv := kv (cf := cfS) _ a (a + bs) N u (le_refl _) (by omega) (by omega)
     obtain ⟨v, hv⟩ : ∃ v, syC cfS a (a + bs) N u = v := ⟨_, rfl⟩
     rw [hv] at mv r5
     have hcv := mv.can (le_refl _) r3
     have hgv := mv.good (le_refl _) r4
     rw [<- r5] at q6
     simp [ac, ag, ae, am, ap, aa, au, ab, ao, ak, ah, ai, aj, hle', hm', j1, j2, j4, hsym _ r3, bU, tSy, e2, hv]
     exact ⟨⟨hN, r4, by omega⟩, ⟨2 * bs, q, v⟩, ⟨by simp only; omega, by simp only; omega, by simp only; omega, hcv, hgv, q6⟩, by simp only; omega, ar (by simp; omega)⟩
    ·have hm' : ¬ (a : Int) + bs < N := by omega
     rw [if_neg hm] at r5
     subst r5
     simp [ac, ag, ae, am, ap, aa, au, ab, ao, ak, ah, ai, aj, hle', hm', j1, j2, j4]
     exact ⟨⟨2 * bs, q, _⟩, ⟨by simp only; omega, by simp only; omega, by simp only; omega, r3, r4, q6⟩, by simp only; omega, ar (by simp; omega)⟩
  ·have hb' : ¬ (bs : Int) < N := by omega
   have e8 : g = F := by
    rw [<- q6]
    cases q with
    | zero => rfl
    | succ q => rw [lS, if_neg hb]
   simp [ac, ag, ae, am, ap, aa, au, ab, ao, ak, ah, ai, aj, hb', e8]
   exact bf rfl ⟨trivial, rfl⟩
noncomputable def CYuS : Ctx := mkC prog G0 [(259, .gen (bj IS 272 190 [.iptr aI] gdS iq (tSt cfS)))]
@[simp] theorem QS : CYuS.P = prog := rfl
@[simp] theorem QR : CYuS.G = G0 := rfl
@[simp] theorem QQ : CYuS.S 259 = .gen (bj IS 272 190 [.iptr aI] gdS iq (tSt cfS)) := rfl
theorem HG : aB CYuS := aD (aF ((SI )) func259 rfl (by decide)) (ax _ _)
theorem SD  : bg prog G0 189 (bj IS 272 190 [.iptr aI] gdS ip (tS0 cfS)) := by
 refine c9 λ H l N f is hl hc hN hg hp => ?_
 obtain rfl : is = [] := by cases is with | nil => rfl | cons => exact hp.elim
 have hst : ∀ (x : Int), bj IS 272 190 [.iptr aI] gdS iq (tSt cfS) [.own l N, .int .i64 x, .fn 190 [.iptr aI]] (H.set l ⟨272, 2, aq (lst N f), true, true⟩) = some (N <= 1000000 /\ (∀ k, k < N -> gdS (f k)) /\ iq [x] N, .tup [], (H.set l ⟨272, 2, aq (lst N f), true, true⟩).set l (bS 272 N (tSt cfS [x] N f))) := λ x => x5 (fl hl) hc x
 refine cP (C := CYuS ) func189 rfl rfl rfl (by show 2 <= _; decide) (ay (HG ) mixed (hd := []) _ (by kernel_rfl) ?_)
 simp [ac, ag, ae, am, ap, aa, au, ab, ao, ak, ah, ai, aj, argsρ, hst, iq]
 exact ⟨⟨hN, hg⟩, bf rfl ⟨trivial, rfl⟩⟩
def Am : PSp := aN (λ (l : List Val) => l = []) (λ l => Enc.enc l)
theorem NH : PureOK prog G0 176 Am := by
 refine jo ut mixed func176 rfl rfl rfl [] (by kernel_rfl) (by decide) (λ l hl => ?_)
 subst hl
 simp [ac, ag, ae, am, ap, aa, au, ab, ao, ak, ah, ai, aj, wt, bE]
 refine aA ut mixed [] (λ i : Nat => ⟨[(3, .own 0 0), (8, .int .i64 0), (9, .int .i64 0)], [⟨62, 5, [], true, true⟩]⟩) (λ i => True) (λ i => i) (by kernel_rfl) ⟨0, trivial, ar (by simp)⟩ ?_
 intro i _
 simp [ac, ag, ae, am, ap, aa, au, ab, ao, ak, ah, ai, aj]
noncomputable def CYo : Ctx := mkC prog G0 [(240, .gen (bY wt)), (176, .pure Am)]
@[simp] theorem Wi : CYo.P = prog := rfl
@[simp] theorem Wg : CYo.G = G0 := rfl
@[simp] theorem Wf : CYo.S 240 = .gen (bY wt) /\ CYo.S 176 = .pure Am := ⟨rfl, rfl⟩
theorem ET : aB CYo := aD (aF (clV) func240 rfl (by decide)) (aH (NH) func176 (ax _ _))
def rq (l : List Val) : Prop := l.length <= 1000000 /\ ∀ v ∈ l, v.l = []
theorem BX {l : List Val} {i : Nat} (h : i < l.length) (hv : (ix l i).l = []) : (aq l).set i [.int .i64 (ix l i).kind, .int .i64 (ix l i).n, .int .i64 (ix l i).d, .str (ix l i).s, .slice 5 false []] = aq l := by
 have e : Enc.cells (ix l i) = [.int .i64 (ix l i).kind, .int .i64 (ix l i).n, .int .i64 (ix l i).d, .str (ix l i).s, .slice 5 false []] := by rw [fE, hv]; rfl
 rw [<- e, jW, bF h, List.set_getElem_self]
def wZ : PSp := aN rq (λ l => Enc.enc l)
theorem NI : PureOK prog G0 176 wZ := by
 refine jo ET mixed func176 rfl rfl rfl [] (by kernel_rfl) (by decide) (λ l ⟨h0, hf⟩ => ?_)
 simp [ac, ag, ae, am, ap, aa, au, ab, ao, ak, ah, ai, aj, wt, bE]
 refine ⟨h0, ?_⟩
 refine aA ET mixed [] (λ i : Nat => ⟨[(3, .own 0 l.length), (8, .int .i64 l.length), (9, .int .i64 i)], [⟨62, 5, aq l, true, true⟩]⟩) (λ i => i <= l.length) (λ i => l.length - i) (by kernel_rfl) ⟨0, by omega, ar (by simp)⟩ (λ i hi => ?_)
 by_cases hlt : i < l.length
 ·have i1 : I64 ((i : Int) + 1) := by unfold I64; omega
  have hv := hf _ (bJ hlt)
  have hs := BX hlt hv
  simp [ac, ag, ae, am, ap, aa, au, ab, ao, ak, ah, ai, aj, hlt, aw hlt, Am, hv, i1, hs]
  exact ⟨i + 1, by omega, by omega, ar (by simp)⟩
 ·simp [ac, ag, ae, am, ap, aa, au, ab, ao, ak, ah, ai, aj, hlt]
theorem rP {k : Int} {l : List Int} (h : l.length <= 1000) : rq (cC k l) := ⟨by rw [kz]; omega, λ v hv => by
 obtain ⟨x, _, rfl⟩ := List.mem_map.1 hv
 rfl⟩
theorem Av {A : List (List AV)} {z x : List AV} {n i : Nat} (hA : A.length = i) (h : i < n) : (A ++ List.replicate (n - i) z).set i x = A ++ [x] ++ List.replicate (n - (i + 1)) z := by
 subst hA
 rw [show n - A.length = (n - (A.length + 1)) + 1 by omega, List.replicate_succ, List.set_append_right _ _ (le_refl _), Nat.sub_self]
 simp
theorem sw {A : List (List AV)} {z : List AV} {n i : Nat} (hA : A.length = i) (h : i < n) : dq (A ++ List.replicate (n - i) z) i = z := by
 subst hA
 unfold dq
 rw [getD_eq_getElem?_getD, List.getElem?_append_right (le_refl _), Nat.sub_self, List.getElem?_replicate, if_pos (by omega)]
 rfl
noncomputable def CYq (k : Int) : Ctx := mkC prog G0 [(176, .pure wZ), (177, .gen (bj (IR k) 79 122 [] gdR ip (tS0 cfR)))]
@[simp] theorem Wl (k : Int) : (CYq k).P = prog := rfl
@[simp] theorem Wj (k : Int) : (CYq k).S 176 = .pure wZ := rfl
@[simp] theorem Wk (k : Int) : (CYq k).S 177 = .gen (bj (IR k) 79 122 [] gdR ip (tS0 cfR)) := rfl
theorem tR (k : Int) : (CYq k).P.follows .mixedOrders = true := mixed
theorem uu (k : Int) : aB (CYq k) := aH (NI) func176 (aD (aF ((SC k)) func177 rfl (by decide)) (ax _ _))
def rl (k : Int) : PSp := aN (λ (l : List (IR k)) => l.length <= 1000000 /\ ∀ r ∈ l, gdR r) (λ l => Enc.enc (cT cfR l))
theorem OY (k : Int) : PureOK prog G0 117 (rl k) := by
 refine jo (C := CYq k) (uu k) (tR k) func117 rfl rfl rfl [] (by kernel_rfl) (by decide) (λ l ⟨h0, hf⟩ => ?_)
 have hN : l.length * 24 <= 140737488355328 := by omega
 simp [ac, ag, ae, am, ap, aa, au, ab, ao, ak, ah, ai, aj, hN]
 refine ⟨by omega, ?_⟩
 refine aA (uu k) (tR k) [] (λ i : Nat => ⟨[(3, .own 0 l.length), (9, Enc.enc l), (10, .int .i64 l.length), (11, .int .i64 i)], [⟨79, 1, aq (l.take i) ++ List.replicate (l.length - i) [.slice 5 true []], true, true⟩]⟩) (λ i => i <= l.length) (λ i => l.length - i) (by kernel_rfl) ⟨0, by omega, ar (by simp)⟩ (λ i hi => ?_)
 have hlen : (aq (l.take i) ++ List.replicate (l.length - i) [AV.slice 5 true []]).length = l.length := by simp; omega
 by_cases hlt : i < l.length
 ·have i1 : I64 ((i : Int) + 1) := by unfold I64; omega
  have hv := rP (k := k) (hf _ (bJ hlt)).1
  have hs := Av (A := aq (l.take i)) (z := [AV.slice 5 true []]) (x := [.slice 5 false (aq (cC k (ix l i).l))]) (n := l.length) (i := i) (by simp; omega) hlt
  have hr : aq (l.take i) ++ [[.slice 5 false (aq (cC k (ix l i).l))]] = aq (l.take (i + 1)) := by
   have ht : l.take (i + 1) = l.take i ++ [ix l i] := by rw [bF hlt, take_add_one, getElem?_eq_getElem hlt]; rfl
   rw [ht, bX]; rfl
  have hro : dq (aq (l.take i) ++ List.replicate (l.length - i) [AV.slice 5 true []]) i = [AV.slice 5 true []] := sw (by simp; omega) hlt
  rw [hr] at hs
  simp [ac, ag, ae, am, ap, aa, au, ab, ao, ak, ah, ai, aj, hlt, aw hlt, wZ, hv, i1, hs, hlen, hro]
  exact ⟨i + 1, by omega, by omega, ar (by simp)⟩
 ·have e : i = l.length := by omega
  subst e
  have hb := og (e := 79) l
  have hcall : bj (IR k) 79 122 [] gdR ip (tS0 cfR) [.own 0 l.length, .fn 122 []] [⟨79, 1, aq l, true, true⟩] = some (l.length <= 1000000 /\ (∀ j, j < l.length -> gdR (l.getD j default)) /\ ip [] l.length, .tup [], [⟨79, 1, aq (cT cfR l), true, true⟩]) :=
   tD (l := 0) (f := λ j => l.getD j default) (by rw [hb]; rfl) (jR l)
  have hg : ∀ j, j < l.length -> gdR (l.getD j default) := λ j hj => by
   have := hf _ (bJ hj)
   exact this
  have hl2 : (cT cfR l).length = l.length := by unfold cT; rw [aZ]
  simp [ac, ag, ae, am, ap, aa, au, ab, ao, ak, ah, ai, aj, hcall, ip, hl2]
  exact ⟨h0, by simpa using hg⟩
def yz : PSp := aN (λ (v : Val) => v.l = []) (λ v => Enc.enc v)
theorem Rn : PureOK prog G0 180 yz := by
 refine jo aR mixed func180 rfl rfl rfl [] (by kernel_rfl) (by decide) (λ v hv => ?_)
 obtain ⟨k, n, d, s, l⟩ := v
 have hv : l = [] := hv
 subst hv
 simp [ac, ag, ae, am, ap, aa, au, ab, ao, ak, ah, ai, aj]
 refine bG 1 (aJ aR mixed [] (by kernel_rfl) ?_)
 simp [ac, ag, ae, am, ap, aa, au, ab, ao, ak, ah, ai, aj]
def Eo : PSp := λ args => match args with
 | [.slice 6 _ [], _] => some (True, .int .i64 (-1))
 | _ => none
theorem RZ : PureOK prog G0 400 Eo := by
 refine dZ (C := CE) func400 rfl rfl rfl λ avs ob r hp hob => ?_
 unfold Eo at hp
 split at hp
 case h_2 => cases hp
 rename_i f v
 simp only [Option.some.injEq, Prod.mk.injEq] at hp
 obtain ⟨rfl, rfl⟩ := hp
 refine ⟨(by show 2 <= _; decide), ay aR mixed (hd := []) _ (by kernel_rfl) ?_⟩
 simp [ac, ag, ae, am, ap, aa, au, ab, ao, ak, ah, ai, aj, argsρ, bq]
 refine aA aR mixed [] (λ i : Nat => ⟨[(7, .int .i64 0), (8, .int .i64 0)], []⟩) (λ i => True) (λ i => i) (by kernel_rfl) ⟨0, trivial, ar (by simp)⟩ ?_
 intro i _
 simp [ac, ag, ae, am, ap, aa, au, ab, ao, ak, ah, ai, aj]
noncomputable def CZa : Ctx := mkC prog G0 [(400, .pure Eo)]
@[simp] theorem WD : CZa.P = prog := rfl
@[simp] theorem WC : CZa.G = G0 := rfl
@[simp] theorem WB : CZa.S 400 = .pure Eo := rfl
theorem LF : aB CZa := aH (RZ) func400 (ax _ _)
def Ef : PSp := λ args => match args with
 | [.slice 6 _ [], _] => some (True, .bool false)
 | _ => none
theorem Rt : PureOK prog G0 356 Ef := by
 refine dZ (C := CZa) func356 rfl rfl rfl λ avs ob r hp hob => ?_
 unfold Ef at hp
 split at hp
 case h_2 => cases hp
 rename_i f v
 simp only [Option.some.injEq, Prod.mk.injEq] at hp
 obtain ⟨rfl, rfl⟩ := hp
 refine ⟨(by show 2 <= _; decide), ay LF mixed (hd := []) _ (by kernel_rfl) ?_⟩
 simp [ac, ag, ae, am, ap, aa, au, ab, ao, ak, ah, ai, aj, argsρ, bq, Eo]
noncomputable def CZb : Ctx := mkC prog G0 [(356, .pure Ef)]
@[simp] theorem WG : CZb.P = prog := rfl
@[simp] theorem WF : CZb.G = G0 := rfl
@[simp] theorem WE : CZb.S 356 = .pure Ef := rfl
theorem LG : aB CZb := aH (Rt) func356 (ax _ _)
def kq : PSp := aW (λ (_ w : List Prp) => w = []) (λ _ _ => .bool true)
theorem JW : PureOK prog G0 299 kq := by
 refine hZ LG mixed func299 rfl rfl rfl [] (by kernel_rfl) (by decide) (λ ps w hw => ?_)
 subst hw
 simp [ac, ag, ae, am, ap, aa, au, ab, ao, ak, ah, ai, aj, Ef]
noncomputable def CZc : Ctx := mkC prog G0 [(176, .pure wZ)]
@[simp] theorem WJ : CZc.P = prog := rfl
@[simp] theorem WI : CZc.G = G0 := rfl
@[simp] theorem WH : CZc.S 176 = .pure wZ := rfl
theorem LH : aB CZc := aH (NI) func176 (ax _ _)
def uh : PSp := aN rq (λ l => Enc.enc (Val.mk 7 0 0 ⟨#[]⟩ l))
theorem OE : PureOK prog G0 301 uh := by
 refine jo LH mixed func301 rfl rfl rfl [] (by kernel_rfl) (by decide) (λ l hl => ?_)
 simp [ac, ag, ae, am, ap, aa, au, ab, ao, ak, ah, ai, aj, wZ, hl, xR]
open Go.Shelf
def Tryz.growV_ren : Go.Shelf.Ren := ⟨fun | 4 => 405 | n => n, fun | 22 => 60 | 25 => 62 | n => n, fun n => n⟩
theorem Tryz.growV : Go.Proofs.Lays8.n4 prog Tryz.growV_ren := {
  mixed := by kernel_rfl
  f4 := ⟨Tryz.f405.name, by decide, func405.trans (congrArg some (by kernel_rfl))⟩
  t0 := Tryz.underlying0
  a0 := Tryz.isAgg0
  z0 := Tryz.sizeOf0
  v0 := Tryz.zeroValue0
  t3 := Tryz.underlying3
  a3 := Tryz.isAgg3
  z3 := Tryz.sizeOf3
  v3 := Tryz.zeroValue3
  t4 := Tryz.underlying4
  a4 := Tryz.isAgg4
  z4 := Tryz.sizeOf4
  v4 := Tryz.zeroValue4
  t9 := Tryz.underlying9
  a9 := Tryz.isAgg9
  z9 := Tryz.sizeOf9
  v9 := Tryz.zeroValue9
  t20 := Tryz.underlying20
  a20 := Tryz.isAgg20
  z20 := Tryz.sizeOf20
  v20 := Tryz.zeroValue20
  t22 := Tryz.underlying60
  a22 := Tryz.isAgg60
  z22 := Tryz.sizeOf60
  v22 := Tryz.zeroValue60 }
def vU : List AV -> List Blk -> Option (Prop × AV × List Blk) := λ args H =>
 match args with
 | [.slice 5 true [], .int .i64 n] => some (1 <= n /\ n <= 1000000, .own H.length 0, H ++ [⟨62, 5, [], true, true⟩])
 | _ => none
theorem N6 : bg prog G0 405 vU := by
 intro w X β H args avs ob r H' R hG hsz harg hp hob
 unfold vU at hp
 split at hp
 case h_2 => cases hp
 rename_i n
 simp only [Option.some.injEq, Prod.mk.injEq] at hp
 obtain ⟨rfl, rfl, rfl⟩ := hp
 obtain ⟨n1, n2⟩ := hob
 obtain ⟨n, rfl⟩ := eq_ofNat_of_zero_le (show 0 <= n by omega)
 obtain ⟨v0, hv0, hr0⟩ := harg 0 _ rfl
 obtain ⟨v1, hv1, hr1⟩ := harg 1 _ rfl
 obtain rfl : args = #[v0, v1] := by
  match args, hsz, hv0, hv1 with
  | ⟨[x, y]⟩, _, h0, h1 => simp at h0 h1; subst h0 h1; rfl
 obtain rfl := bW hr1
 obtain ⟨a, cap, val, rfl, h3, h4, h5, _⟩ := dC (dO hr0)
 obtain rfl : cap = 0 := by simpa using h5 rfl
 obtain ⟨i, zv, z1, z2, z3, z4, z5, z6, z7⟩ := cN (P := prog) (t := 62) (z := [.int .i64 0, .int .i64 0, .int .i64 0, .str ByteArray.empty, .slice 5 true []]) (by kernel_rfl)
 have hb : i.bytes = 64 := by
  have e : byT prog 62 = 64 := by kernel_rfl
  simpa [byT, z1] using e
 have hsz0 : 0 < i.size := z4
 have h5 : i.size = 5 := z3
 have hcall := Any8.slices_Grow_grow Tryz.growV i zv z1 z2 hsz0 a 0 0 n [] w (le_refl _) (by omega) (by rw [hb]; omega) (by omega) (by simp) (λ _ => rfl) (λ _ _ j v h => by cases h)
 refine hcall.mono ?_
 rintro e w' ⟨he, hw'⟩
 obtain ⟨G1, hG1⟩ : ∃ g, grownCap w (0 + n) 0 (Tryz.growV_ren.t 25) = g := ⟨_, rfl⟩
 have hge : 0 + n <= G1 := by rw [<- hG1]; exact grownCap_ge w _ _ _
 have hle : G1 <= maxLen := by rw [<- hG1]; exact grownCap_le_maxLen w _ _ _ (by unfold maxLen; omega)
 rw [hG1] at he hw'
 have hz : zv.cells.size = 5 := z6
 have hk := fJ w (.cells (([] : List Value).toArray ++ Builtin.zeroCells zv.cells (0 + n - 0) ++ Builtin.zeroCells zv.cells (G1 - (0 + n))) 62)
 have S := dL R hk (.lies w.heap.size G1) ⟨62, 5, [], true, true⟩ (λ bk c e => by injection e with e _; omega)
 have ht : Tryz.growV_ren.t 25 = 62 := rfl
 rw [ht] at hw'
 rw [hw']
 refine ⟨_, β ++ [.lies w.heap.size G1], he, d9 R hk _ _ (λ bk c e => by injection e with e _; omega) (λ bk c e => by injection e with e _; subst e; simp) ?_, S, ?_⟩
 ·refine .inl ⟨_, heap_alloc_new w.drew _, ?_, by simp, hle, by decide, λ r hr => (by cases hr), λ i j r av hi hj => (by simp at hi)⟩
  simp only [Array.size_append, size_zeroCells, hz]
  simp
  omega
 ·refine .own H.length 0 _ _ ⟨62, 5, [], true, true⟩ (by simp) ⟨by decide, by simp⟩ (.inl rfl) (by omega) λ _ => ?_
  rw [<- R.len]
  simp [zf]
noncomputable def CYg : Ctx := mkC prog G0 [(405, .gen vU)]
@[simp] theorem V5 : CYg.P = prog := rfl
@[simp] theorem V4 : CYg.G = G0 := rfl
@[simp] theorem V3 : CYg.S 405 = .gen vU := rfl
theorem yR : aB CYg := aD (aF (N6) func405 rfl (by decide)) (ax _ _)
def mM (L : List (List Val)) (i : Nat) : List Val := (L.take i).flatten
theorem rE {L : List (List Val)} {i : Nat} (h : i < L.length) : mM L (i + 1) = mM L i ++ ix L i := by
 unfold mM
 rw [bF h, take_add_one, getElem?_eq_getElem h, List.flatten_append]
 simp
theorem vj (L : List (List Val)) : mM L L.length = L.flatten := by unfold mM; rw [take_length]
theorem zr (L : List (List Val)) (i : Nat) : (mM L i).length <= L.flatten.length := by
 have h := congrArg List.flatten (List.take_append_drop i L)
 rw [List.flatten_append] at h
 rw [<- h, length_append]
 exact Nat.le_add_right _ _
def uf : PSp := aN (λ (L : List (List Val)) => 1 <= L.flatten.length /\ L.flatten.length <= 1000000 /\ L.length <= 1000) (λ L => Enc.enc L.flatten)
theorem Rh : PureOK prog G0 363 uf := by
 refine jo yR mixed func363 rfl rfl rfl [] (by kernel_rfl) (by decide) (λ L ⟨h1, h2, h3⟩ => ?_)
 obtain ⟨F, hF⟩ : ∃ F, L.flatten = F := ⟨_, rfl⟩
 rw [hF] at h1 h2 ⊢
 simp [ac, ag, ae, am, ap, aa, au, ab, ao, ak, ah, ai, aj]
 refine aA yR mixed [] (λ i : Nat => ⟨[(0, Enc.enc L), (3, .int .i64 (mM L i).length), (9, Enc.enc L), (10, .int .i64 L.length), (11, .int .i64 i)], []⟩) (λ i => i <= L.length) (λ i => L.length - i) (by kernel_rfl) ⟨0, by omega, ar (by simp [mM])⟩ (λ i hi => ?_)
 by_cases hlt : i < L.length
 ·have i1 : I64 ((i : Int) + 1) := by unfold I64; omega
  have hs := congrArg List.length (rE hlt)
  rw [length_append] at hs
  have hle := zr L (i + 1)
  rw [hF] at hle
  have i2 : I64 (((mM L i).length : Int) + (ix L i).length) := by unfold I64; omega
  have n2 : ¬ ((mM L i).length : Int) + (ix L i).length < 0 := by omega
  simp [ac, ag, ae, am, ap, aa, au, ab, ao, ak, ah, ai, aj, hlt, aw hlt, i1, i2, n2]
  exact ⟨i + 1, by omega, by omega, ar (by simp [hs])⟩
 ·have e : i = L.length := by omega
  subst e
  rw [vj, hF]
  have e2 : ∀ n : Int, vU [.slice 5 true [], .int .i64 n] [] = some (1 <= n /\ n <= 1000000, .own 0 0, [⟨62, 5, [], true, true⟩]) := λ _ => rfl
  simp [ac, ag, ae, am, ap, aa, au, ab, ao, ak, ah, ai, aj, e2]
  refine ⟨by omega, ?_⟩
  refine aA yR mixed [] (λ i : Nat => ⟨[(6, .own 0 (mM L i).length), (25, Enc.enc L), (26, .int .i64 L.length), (27, .int .i64 i)], [⟨62, 5, aq (mM L i), true, true⟩]⟩) (λ i => i <= L.length) (λ i => L.length - i) (by kernel_rfl) ⟨0, by omega, ar (by simp [mM])⟩ (λ i hi => ?_)
  by_cases hlt : i < L.length
  ·have i1 : I64 ((i : Int) + 1) := by unfold I64; omega
   have hc := rE hlt
   have hs := congrArg List.length hc
   rw [length_append] at hs
   have hle := zr L (i + 1)
   rw [hF] at hle
   simp [ac, ag, ae, am, ap, aa, au, ab, ao, ak, ah, ai, aj, hlt, aw hlt, i1]
   refine ⟨⟨by omega, by omega⟩, i + 1, by omega, by omega, ?_⟩
   rw [hc]
   exact ar (by simp)
  ·have e : i = L.length := by omega
   subst e
   rw [vj, hF]
   simp [ac, ag, ae, am, ap, aa, au, ab, ao, ak, ah, ai, aj]
def lB : List Int -> Nat -> Prop
 | [n], N => n = N /\ N <= 19
 | _, _ => False
def m5 : List Int -> Nat -> Prop
 | [], N => N <= 19
 | _, _ => False
theorem B0 {α : Type} {cf : α -> α -> Int} {N : Nat} {f : Nat -> α} (h : N <= 19) : qw cf N f = fW cf 0 1 (N - 1) f := by
 have e : pr cf 20 N (N + 1) 0 f = fW cf 0 1 (N - 1) f := by
  rw [pr, if_neg (by omega)]; rfl
 have e2 : ∀ g : Nat -> α, lS cf N (N + 1) 20 g = g := λ g => by rw [lS, if_neg (by omega)]
 unfold qw
 rw [e2, e]
noncomputable def CYtA : Ctx := mkC prog G0 [(437, .gen (bj Ed 373 361 [] gdE dX (tIn d8)))]
@[simp] theorem QF : CYtA.P = prog := rfl
@[simp] theorem QE : CYtA.G = G0 := rfl
@[simp] theorem QD : CYtA.S 437 = .gen (bj Ed 373 361 [] gdE dX (tIn d8)) := rfl
theorem uw : aB CYtA := aD (aF (RV) func437 rfl (by decide)) (ax _ _)
theorem SG : bg prog G0 403 (bj Ed 373 361 [] gdE lB (tSt d8)) := by
 refine c9 λ H l N f is hl hc hN hg hp => ?_
 obtain ⟨n, rfl⟩ := one hp (λ is h hh => by unfold lB at hh; split at hh <;> simp at h hh)
 obtain ⟨rfl, hs⟩ : n = N /\ N <= 19 := hp
 have hins : ∀ (x y : Int), bj Ed 373 361 [] gdE dX (tIn d8) [.own l N, .int .i64 x, .int .i64 y, .fn 361 []] (H.set l ⟨373, 3, aq (lst N f), true, true⟩) = some (N <= 1000000 /\ (∀ k, k < N -> gdE (f k)) /\ dX [x, y] N, .tup [], (H.set l ⟨373, 3, aq (lst N f), true, true⟩).set l (bS 373 N (tIn d8 [x, y] N f))) := λ x y => x6 (fl hl) hc x y
 have e9 : tSt d8 [(N : Int)] N f = fW d8 0 1 (N - 1) f := B0 hs
 refine cP (C := CYtA) func403 rfl rfl rfl (by show 3 <= _; decide) (ay uw mixed (hd := []) _ (by kernel_rfl) ?_)
 rw [e9]
 have h1 : ¬ (20 : Int) <= N := by omega
 have h2 : ¬ (20 : Int) < N := by omega
 simp [ac, ag, ae, am, ap, aa, au, ab, ao, ak, ah, ai, aj, argsρ]
 refine aA uw mixed [] (λ x : Nat => ⟨[(0, .own l N), (1, .int .i64 N), (2, .fn 361 []), (6, .int .i64 20), (7, .int .i64 0), (8, .int .i64 20)], H.set l (bS 373 N f)⟩) (λ _ => True) (λ x => x) (by kernel_rfl) ⟨0, trivial, ar (by simp)⟩ ?_
 intro x _
 simp [ac, ag, ae, am, ap, aa, au, ab, ao, ak, ah, ai, aj, h1, hins, dX, tIn]
 refine ⟨⟨hN, hg⟩, ?_⟩
 refine aA uw mixed [] (λ x : Nat => ⟨[(0, .own l N), (1, .int .i64 N), (2, .fn 361 []), (6, .int .i64 20)], H.set l (bS 373 N (fW d8 0 1 (N - 1) f))⟩) (λ _ => True) (λ x => x) (by kernel_rfl) ⟨0, trivial, ar (by simp)⟩ ?_
 intro y _
 simp [ac, ag, ae, am, ap, aa, au, ab, ao, ak, ah, ai, aj, h2]
 exact bf rfl ⟨trivial, rfl⟩
noncomputable def CYuA : Ctx := mkC prog G0 [(403, .gen (bj Ed 373 361 [] gdE lB (tSt d8)))]
@[simp] theorem QN : CYuA.P = prog := rfl
@[simp] theorem QM : CYuA.G = G0 := rfl
@[simp] theorem QL : CYuA.S 403 = .gen (bj Ed 373 361 [] gdE lB (tSt d8)) := rfl
theorem HE : aB CYuA := aD (aF (SG) func403 rfl (by decide)) (ax _ _)
theorem SB : bg prog G0 360 (bj Ed 373 361 [] gdE m5 (tS0 d8)) := by
 refine c9 λ H l N f is hl hc hN hg hp => ?_
 obtain rfl : is = [] := by cases is with | nil => rfl | cons => exact hp.elim
 have hst : ∀ (x : Int), bj Ed 373 361 [] gdE lB (tSt d8) [.own l N, .int .i64 x, .fn 361 []] (H.set l ⟨373, 3, aq (lst N f), true, true⟩) = some (N <= 1000000 /\ (∀ k, k < N -> gdE (f k)) /\ lB [x] N, .tup [], (H.set l ⟨373, 3, aq (lst N f), true, true⟩).set l (bS 373 N (tSt d8 [x] N f))) := λ x => x5 (fl hl) hc x
 refine cP (C := CYuA) func360 rfl rfl rfl (by show 2 <= _; decide) (ay HE mixed (hd := []) _ (by kernel_rfl) ?_)
 simp [ac, ag, ae, am, ap, aa, au, ab, ao, ak, ah, ai, aj, argsρ, hst, lB]
 exact ⟨⟨hN, hg, hp⟩, bf rfl ⟨trivial, rfl⟩⟩
def edF (e : Edg) : Ed := ⟨e.frm, e.to, e.id⟩
noncomputable def CSt : Ctx := mkC prog G0 [(62, .pure lg), (360, .gen (bj Ed 373 361 [] gdE m5 (tS0 d8)))]
@[simp] theorem Va : CSt.P = prog := rfl
@[simp] theorem U9 : CSt.G = G0 := rfl
@[simp] theorem U8 : CSt.S 62 = .pure lg /\ CSt.S 360 = .gen (bj Ed 373 361 [] gdE m5 (tS0 d8)) := ⟨rfl, rfl⟩
theorem EN : aB CSt := aH (vX) func62 (aD (aF (SB) func360 rfl (by decide)) (ax _ _))
def sSt : PSp := xf (λ (g : Gra) (_ : Int) (ts : List ByteArray) (d : Int) => g.edges.length <= 8 /\ ts = [] /\ d = 3) (λ g p _ _ => Enc.enc (bu (g.edges.map edF) p))
theorem E6 (l : List Ed) (x : Ed) (p : Int) : stF (l ++ [x]) p = stF l p ++ (if x.f = p then [⟨p, x.t, x.i⟩] else if x.t = p then [⟨p, x.f, x.i⟩] else []) := by
 unfold stF
 rw [List.filterMap_append]
 congr 1
 by_cases h1 : x.f = p
 ·simp [h1]
 ·by_cases h2 : x.t = p <;> simp [h1, h2]
def stI (g : Gra) (p : Int) (i : Nat) : List Ed := stF ((g.edges.take i).map edF) p
theorem AC (g : Gra) (p : Int) (i : Nat) : (stI g p i).length <= i := by
 refine Nat.le_trans (List.length_filterMap_le _ _) ?_
 rw [length_map, List.length_take]
 omega
theorem E7 (g : Gra) (p : Int) {i : Nat} (h : i < g.edges.length) : stI g p (i + 1) = stI g p i ++ (if (ix g.edges i).frm = p then [⟨p, (ix g.edges i).to, (ix g.edges i).id⟩] else if (ix g.edges i).to = p then [⟨p, (ix g.edges i).frm, (ix g.edges i).id⟩] else []) := by
 unfold stI
 rw [take_add_one, getElem?_eq_getElem h, Option.toList_some, List.map_append, List.map_singleton, E6, bF h]
 rfl
theorem AB (g : Gra) (p : Int) : stI g p g.edges.length = stF (g.edges.map edF) p := by unfold stI; rw [take_length]
theorem E9 : PureOK prog G0 303 sSt := by
 refine OK EN mixed func303 rfl rfl rfl (by kernel_rfl) (by decide) (λ g p ts d ⟨h8, h2, h3⟩ => ?_)
 subst h2 h3
 simp [ac, ag, ae, am, ap, aa, au, ab, ao, ak, ah, ai, aj]
 refine aT EN mixed (λ i : Nat => ⟨[(1, .int .i64 p), (2, .slice 1 false []), (3, .int .i64 3), (9, .own 1 (stI g p i).length), (13, Enc.enc g.edges), (14, .int .i64 g.edges.length), (15, .int .i64 i)], [⟨25, 4, [[.slice 3 false (aq g.nodes), .slice 5 false (aq g.edges), .int .i64 g.nn, .int .i64 g.ne]], true, true⟩, ⟨373, 3, aq (stI g p i), true, true⟩]⟩) (λ i => i <= g.edges.length) (λ i => g.edges.length - i) (by kernel_rfl) ⟨0, by simp, (ev 9 3 373 (by simp) (by decide)).trans (ar (by simp [stI, stF]))⟩ (λ i hi => ?_)
 by_cases hlt : i < g.edges.length
 ·have i1 : I64 ((i : Int) + 1) := by unfold I64; omega
  have hs := E7 g p hlt
  have hle := AC g p i
  by_cases c1 : (ix g.edges i).frm = p
  ·rw [if_pos c1] at hs
   simp [ac, ag, ae, am, ap, aa, au, ab, ao, ak, ah, ai, aj, hlt, aw hlt, i1, lg, c1]
   refine ⟨⟨by omega, by omega⟩, i + 1, by omega, by omega, ?_⟩
   rw [hs]
   exact bH 2 (by simp) (by simp) (by simp [AV.clean, AV.clean1]) (by simp) (by simp [aq])
  ·rw [if_neg c1] at hs
   by_cases c2 : (ix g.edges i).to = p
   ·rw [if_pos c2] at hs
    simp [ac, ag, ae, am, ap, aa, au, ab, ao, ak, ah, ai, aj, hlt, aw hlt, i1, lg, c1, c2]
    refine ⟨⟨by omega, by omega⟩, i + 1, by omega, by omega, ?_⟩
    rw [hs]
    exact bH 2 (by simp) (by simp) (by simp [AV.clean, AV.clean1]) (by simp) (by simp [aq])
   ·rw [if_neg c2, List.append_nil] at hs
    simp [ac, ag, ae, am, ap, aa, au, ab, ao, ak, ah, ai, aj, hlt, aw hlt, i1, lg, c1, c2]
    refine ⟨i + 1, by omega, by omega, ?_⟩
    rw [hs]
    exact bH 2 (by simp) (by simp) (by simp [AV.clean, AV.clean1]) (by simp) (by simp)
 ·have ei : i = g.edges.length := by omega
  subst ei
  rw [AB]
  obtain ⟨L, hL⟩ : ∃ L, stF (g.edges.map edF) p = L := ⟨_, rfl⟩
  have hlen : L.length <= 8 := by
   have := AC g p g.edges.length
   rw [AB, hL] at this
   omega
  have hres : bu (g.edges.map edF) p = cT d8 L := by rw [<- hL]; rfl
  rw [hL, hres]
  have hb := og (e := 373) L
  have hcall : bj Ed 373 361 [] gdE m5 (tS0 d8) [.own 1 L.length, .fn 361 []] [⟨25, 4, [[.slice 3 false (aq g.nodes), .slice 5 false (aq g.edges), .int .i64 g.nn, .int .i64 g.ne]], true, true⟩, ⟨373, 3, aq L, true, true⟩] = some (L.length <= 1000000 /\ (∀ k, k < L.length -> gdE (L.getD k default)) /\ m5 [] L.length, .tup [], [⟨25, 4, [[.slice 3 false (aq g.nodes), .slice 5 false (aq g.edges), .int .i64 g.nn, .int .i64 g.ne]], true, true⟩, ⟨373, 3, aq (cT d8 L), true, true⟩]) :=
   tD (l := 1) (f := λ k => L.getD k default) (by rw [hb]; rfl) (jR L)
  have hl2 : (cT d8 L).length = L.length := by unfold cT; rw [aZ]
  simp [ac, ag, ae, am, ap, aa, au, ab, ao, ak, ah, ai, aj, hcall, m5, gdE, hl2]
  exact ⟨by omega, by omega⟩
end
end Go.Proofs.YtnbcneiicnepcaaGreatDoor