/-
  Texts joined.
-/
import Derived.Test.YtnbcneiicnepcaaGreatDoorJ6
import Derived.Test.YtnbcneiicnepcaaGreatDoorJ5
import Derived.Test.YtnbcneiicnepcaaGreatDoorJ4
import Derived.Test.YtnbcneiicnepcaaGreatDoorJ3
import Derived.RecoverIn
import Derived.Test.YtnbcneiicnepcaaGreatDoorRows
import Derived.MakeChecks
import Derived.ChangeSame
import Derived.LaidMore
import Derived.LaidSub
import Derived.Shelf.Vars
import Derived.HandedShaped
namespace Go.Proofs.YtnbcneiicnepcaaGreatDoor
open List (any_eq_true append_nil cons_append find?_cons flatMap_cons getElem?_eq_getElem getElem_map length_cons length_filter_le length_map length_take map_append map_congr_left map_cons map_take mem_cons mem_filter mem_flatMap mem_iff_getElem mem_map mem_singleton nil_append not_mem_nil take_left' take_length)
open Option (map_eq_some_iff)
open Nat (le_refl le_trans zero_le)
open _root_.Go.Proofs.Tryz
noncomputable section
set_option maxHeartbeats 16000000
open Go.RowKit
set_option linter.unusedSimpArgs false
set_option linter.unusedVariables false
set_option maxRecDepth 100000
noncomputable def CR0 : Ctx := mkC prog G0 [(23, .pure sGc), (110, .pure ju), (95, .pure wX), (173, .gen gWt), (117, .frz (rl 5))]
@[simp] theorem UM : CR0.P = prog := rfl
@[simp] theorem UL : CR0.G = G0 := rfl
@[simp] theorem UK : CR0.S 23 = .pure sGc /\ CR0.S 110 = .pure ju /\ CR0.S 95 = .pure wX /\ CR0.S 173 = .gen gWt /\ CR0.S 117 = .frz (rl 5) := ⟨rfl, rfl, rfl, rfl, rfl⟩
theorem cX : aB CR0 := aH (gcP) func23 (aH (I1) func110 (aH (ckP) func95 (aD (aF (wtP) func173 rfl (by decide)) (aD (lU ((OY 5)) func117 rfl (by decide)) (ax _ _)))))
theorem w4 : w64 4 = 4 := dd (by unfold I64; omega)
theorem ly (l e s p o : Nat) (b : Bool) (H : List Blk) : gWt [.ptr l e s p o, .slice 10 b []] H = some (True, .slice 6 true [], H) := rfl
theorem sG (b : Bool) : ju [.slice 3 b [nV]] = some (True, .slice 1 false [[.str sA], [.str sB], [.str sC]]) := by simp [ju, cM]
theorem Hc : wX [.agg nV, .bool false] = some (True, .int .i64 0) := by simp [wX, cM, nV, bq]
theorem Ea : wX [.agg [.str ⟨#[]⟩, .slice 3 false [ndP sA, ndP sB, ndP sC, ndP sA], .slice 7 false [egP, egP, egP]], .bool false] = some (True, .int .i64 0) := Hc
theorem Em (g : Gra) : sGc [aG g] = some (WfG g /\ cB g = 0, .int .i64 0) := by simp [sGc, aN, aG]
def rwH (g : Gra) : List Blk := [⟨25, 4, [[.slice 3 false (aq g.nodes), .slice 5 false (aq g.edges), .int .i64 g.nn, .int .i64 g.ne]], true, true⟩, CF [], Dc g ⟨2, 1, 5, 6⟩ 0, ⟨112, 3, [nV], true, true⟩, bP, KG [], KJ]
def rwW : Wh := ⟨2, 1, 5, 6⟩
theorem KX (g : Gra) : OkW rwW (rwH g) := by
 refine ⟨by show 2 < 7; decide, by show 1 < 7; decide, by show 5 < 7; decide, by decide, by decide, by decide, by decide, by decide, by decide, rfl, ?_⟩
 intro b hb
 simp only [rwH, mem_cons, not_mem_nil, or_false] at hb
 rcases hb with rfl | rfl | rfl | rfl | rfl | rfl | rfl
 ·exact b8 rfl
 ·exact .inr (by simp [CF])
 ·exact .inr (by simp [Dc, AV.cleanF, AV.clean2, AV.clean1, AV.clean0, rwH])
 all_goals exact b8 rfl
@[reducible] noncomputable def LR0 : List (Nat × Entry) := [(23, .pure sGc), (110, .pure ju), (95, .pure wX), (173, .gen gWt), (117, .frz (rl 5))]
def BS : PSp := λ args => match args with
 | [a, .slice 3 _ [p], .slice 6 _ []] => some (bq a = aG (Enc.dec a : Gra) /\ p = nV /\ WfG (Enc.dec a : Gra) /\ cB (Enc.dec a : Gra) = 0 /\ GdG (Enc.dec a : Gra) /\ (wkN (Enc.dec a : Gra)).length <= 1000000, Enc.enc (cT cfR (wkN (Enc.dec a : Gra))))
 | _ => none
theorem Ft {g : Gra} (hg : GdG g) : ∀ r ∈ wkN g, gdR r := by
 intro r hr
 obtain ⟨n, hn, hr⟩ := mem_flatMap.1 hr
 obtain ⟨a, ha, hr⟩ := mem_flatMap.1 hr
 obtain ⟨b, hb, hr⟩ := mem_flatMap.1 hr
 obtain ⟨c, hc, hr⟩ := mem_flatMap.1 hr
 have h1 := hg.r n hn
 obtain ⟨m, hm, e1⟩ := (iE hg ha).2
 have h2 := hg.r m hm
 obtain ⟨o, ho, e2⟩ := (iE hg hb).2
 have h3 := hg.r o ho
 rw [e1] at h2
 rw [e2] at h3
 by_cases h : n.id = c.t
 ·rw [if_pos h, mem_singleton] at hr
  subst hr
  refine ⟨by simp, λ x hx => ?_⟩
  simp only [mem_cons, not_mem_nil, or_false] at hx
  rcases hx with rfl | rfl | rfl
  ·exact .inl ⟨rfl, h1⟩
  ·exact .inl ⟨rfl, h2⟩
  ·exact .inl ⟨rfl, h3⟩
 ·rw [if_neg h] at hr
  cases hr
theorem ew {P : Program} {G : Nat -> AV} {f : FuncId} {p : List AV -> Option (Prop × AV)} (h : ∀ avs ob r, p avs = some (ob, r) -> ob -> PureOK P G f (λ a => some (a = avs, r))) : PureOK P G f p := by
 intro w X args avs ob r hX hG hsz harg hp hob
 exact h avs ob r hp hob w X args avs _ r hX hG hsz harg rfl rfl
theorem hU {C : Ctx} {f : FuncId} {fn : Func} {body : Code} {rs : List ResultVar} {n : Nat} (hf : C.P.funcs[f]? = some fn) (hb : fn.body = some body) (hrs : fn.results.toList = rs) (hn : fn.ntmps = n) {A : List AV} {r : AV} (hl : A.length <= n)
  (h : AW C n 0 body ⟨argsρ 0 (A.map bq), []⟩ (fY C rs r)) : PureOK C.P C.G f (λ a => some (a = A, r)) :=
 dZ hf hb hrs hn λ avs ob r' hp hob => by
  simp only [Option.some.injEq, Prod.mk.injEq] at hp
  obtain ⟨rfl, rfl⟩ := hp
  subst hob
  exact ⟨hl, h⟩
theorem Ey (L : List (IR 5)) (b : Bool) : rl 5 [.slice 1 b (aq L)] = some (L.length <= 1000000 /\ ∀ r ∈ L, gdR r, .slice 1 false (aq (cT cfR L))) := by simp [rl, aN]
theorem Sx : PureOK prog G0 113 BS := by
 refine ew λ avs ob r hp hob => ?_
 unfold BS at hp
 split at hp
 case h_2 => cases hp
 rename_i a b1 p b2
 simp only [Option.some.injEq, Prod.mk.injEq] at hp
 obtain ⟨rfl, rfl⟩ := hp
 obtain ⟨ha, rfl, hwf, hck, hgd, hln⟩ := hob
 obtain ⟨g, hg⟩ : ∃ g, (Enc.dec a : Gra) = g := ⟨_, rfl⟩
 rw [hg] at ha hwf hck hgd hln ⊢
 have hgc := Em g
 simp only [aG] at hgc
 have hst := BZ (g := g) (KX g) hgd (rows := []) (by simpa using hln)
 rw [nil_append] at hst
 have hf2 : (FH g rwW (rwH g) (wkN g).length (wkN g) (az []))[2]? = some ⟨242, 9, [[.slice 3 false (aq g.nodes), .slice 5 false (aq g.edges), .int .i64 g.nn, .int .i64 g.ne, .slice 6 false [], .own 6 1, .slice 1 false [[.str sA], [.str sB], [.str sC]], .mapo 1, .own 5 (wkN g).length]], true, false⟩ := gf0 (KX g)
 have hf5 : (FH g rwW (rwH g) (wkN g).length (wkN g) (az []))[5]? = some ⟨79, 1, aq (wkN g), true, true⟩ := M8 (KX g)
 obtain ⟨H2, hH2⟩ : ∃ H2, FH g rwW (rwH g) (wkN g).length (wkN g) (az []) = H2 := ⟨_, rfl⟩
 rw [hH2] at hst hf2 hf5
 have hE : eO 174 [.ptr 2 1 9 0 0, .int .i64 0] (rwH g) H2 := aF hst func174 rfl (by decide)
 refine hU (C := CX 174 [.ptr 2 1 9 0 0, .int .i64 0] (rwH g) H2 LR0) func113 rfl rfl rfl (by show 3 <= _; decide) (ay (bQ hE cX) mixed (hd := [3, 7, 9, 20, 25, 27]) _ (by kernel_rfl) ?_)
 have n1 : (CX 174 [.ptr 2 1 9 0 0, .int .i64 0] (rwH g) H2 LR0).S 23 = .pure sGc := rfl
 have n2 : (CX 174 [.ptr 2 1 9 0 0, .int .i64 0] (rwH g) H2 LR0).S 110 = .pure ju := rfl
 have n3 : (CX 174 [.ptr 2 1 9 0 0, .int .i64 0] (rwH g) H2 LR0).S 95 = .pure wX := rfl
 have n4 : (CX 174 [.ptr 2 1 9 0 0, .int .i64 0] (rwH g) H2 LR0).S 173 = .gen gWt := rfl
 have n5 : (CX 174 [.ptr 2 1 9 0 0, .int .i64 0] (rwH g) H2 LR0).S 117 = .frz (rl 5) := rfl
 simp only [List.map, ha, dc]
 simp [ac, ag, ae, am, ap, aa, au, ab, ao, ak, ah, ai, aj, argsρ, aG, n1, hgc, hwf, hck]
 refine aE (bQ hE cX) mixed [.read, .pure, .pure, .read, .eff, .pure, .eff, .pure] [[],[],[],[2],[],[4,2,3,1,0],[0,1,3,2,4,5],[5,4,2,3,1,0,6]] (by kernel_rfl) (by kernel_rfl) (by kernel_rfl) (by kernel_rfl) ?_
 simp [ac, ag, ae, am, ap, aa, au, ab, ao, ak, ah, ai, aj, n2, sG]
 refine bG 1 (aJ (bQ hE cX) mixed [3, 7, 9, 20, 25, 27] (by kernel_rfl) ?_)
 simp [ac, ag, ae, am, ap, aa, au, ab, ao, ak, ah, ai, aj]
 refine bG 2 (aJ (bQ hE cX) mixed [3, 7, 9, 20, 25, 27] (by kernel_rfl) ?_)
 simp [ac, ag, ae, am, ap, aa, au, ab, ao, ak, ah, ai, aj, nV, n3, Ea]
 refine bG 5 ?_
 refine aJ (bQ hE cX) mixed [3, 7, 9, 20, 25, 27] (by kernel_rfl) ?_
 simp [ac, ag, ae, am, ap, aa, au, ab, ao, ak, ah, ai, aj, w1, w2, w3, w4, ndP, egP]
 refine aE (bQ hE cX) mixed [.pure, .read, .pure, .pure, .read, .eff, .eff, .eff, .pure, .eff] [[],[0],[],[],[3],[3,4,2],[2,4,3,5],[5,3,4,2,6,0,1],[7,6,5,4,3,2,1,0],[0,1,2,3,4,5,6,7,8]] (by kernel_rfl) (by kernel_rfl) (by kernel_rfl) (by kernel_rfl) ?_
 simp [ac, ag, ae, am, ap, aa, au, ab, ao, ak, ah, ai, aj, n4, ly, w1, w2, w3, w4]
 refine aJ (bQ hE cX) mixed [3, 7, 9, 20, 25, 27] (by kernel_rfl) ?_
 simp [ac, ag, ae, am, ap, aa, au, ab, ao, ak, ah, ai, aj, w1, w2, w3, w4, ndP, egP]
 refine aE (bQ hE cX) mixed [.pure, .read, .pure, .pure, .read, .eff, .eff, .eff, .pure, .eff] [[],[0],[],[],[3],[3,4,2],[2,4,3,5],[5,3,4,2,6,0,1],[7,6,5,4,3,2,1,0],[0,1,2,3,4,5,6,7,8]] (by kernel_rfl) (by kernel_rfl) (by kernel_rfl) (by kernel_rfl) ?_
 simp [ac, ag, ae, am, ap, aa, au, ab, ao, ak, ah, ai, aj, n4, ly, w1, w2, w3, w4]
 refine aJ (bQ hE cX) mixed [3, 7, 9, 20, 25, 27] (by kernel_rfl) ?_
 simp [ac, ag, ae, am, ap, aa, au, ab, ao, ak, ah, ai, aj, w1, w2, w3, w4, ndP, egP]
 refine aE (bQ hE cX) mixed [.pure, .read, .pure, .pure, .read, .eff, .eff, .eff, .pure, .eff] [[],[0],[],[],[3],[3,4,2],[2,4,3,5],[5,3,4,2,6,0,1],[7,6,5,4,3,2,1,0],[0,1,2,3,4,5,6,7,8]] (by kernel_rfl) (by kernel_rfl) (by kernel_rfl) (by kernel_rfl) ?_
 simp [ac, ag, ae, am, ap, aa, au, ab, ao, ak, ah, ai, aj, n4, ly, w1, w2, w3, w4]
 refine aJ (bQ hE cX) mixed [3, 7, 9, 20, 25, 27] (by kernel_rfl) ?_
 simp [ac, ag, ae, am, ap, aa, au, ab, ao, ak, ah, ai, aj, w1, w2, w3, w4, ndP, egP]
 refine aE (bQ hE cX) mixed [.pure, .read, .pure, .pure, .read, .eff, .eff, .eff, .pure, .eff] [[],[0],[],[],[3],[3,4,2],[2,4,3,5],[5,3,4,2,6,0,1],[7,6,5,4,3,2,1,0],[0,1,2,3,4,5,6,7,8]] (by kernel_rfl) (by kernel_rfl) (by kernel_rfl) (by kernel_rfl) ?_
 simp [ac, ag, ae, am, ap, aa, au, ab, ao, ak, ah, ai, aj, n4, ly, w1, w2, w3, w4]
 refine aJ (bQ hE cX) mixed [3, 7, 9, 20, 25, 27] (by kernel_rfl) ?_
 simp [ac, ag, ae, am, ap, aa, au, ab, ao, ak, ah, ai, aj]
 refine bG 4 ?_
 refine aJ (bQ hE cX) mixed [3, 7, 9, 20, 25, 27] (by kernel_rfl) ?_
 simp [ac, ag, ae, am, ap, aa, au, ab, ao, ak, ah, ai, aj, w1, w2, w3, w4, ndP, egP]
 refine aE (bQ hE cX) mixed [.pure, .read, .pure, .pure, .read, .eff, .eff, .eff, .pure, .eff] [[],[0],[],[],[3],[3,4,2],[2,4,3,5],[5,3,4,2,6,0,1],[7,6,5,4,3,2,1,0],[0,1,2,3,4,5,6,7,8]] (by kernel_rfl) (by kernel_rfl) (by kernel_rfl) (by kernel_rfl) ?_
 simp [ac, ag, ae, am, ap, aa, au, ab, ao, ak, ah, ai, aj, n4, ly, w1, w2, w3, w4]
 refine aJ (bQ hE cX) mixed [3, 7, 9, 20, 25, 27] (by kernel_rfl) ?_
 simp [ac, ag, ae, am, ap, aa, au, ab, ao, ak, ah, ai, aj, w1, w2, w3, w4, ndP, egP]
 refine aE (bQ hE cX) mixed [.pure, .read, .pure, .pure, .read, .eff, .eff, .eff, .pure, .eff] [[],[0],[],[],[3],[3,4,2],[2,4,3,5],[5,3,4,2,6,0,1],[7,6,5,4,3,2,1,0],[0,1,2,3,4,5,6,7,8]] (by kernel_rfl) (by kernel_rfl) (by kernel_rfl) (by kernel_rfl) ?_
 simp [ac, ag, ae, am, ap, aa, au, ab, ao, ak, ah, ai, aj, n4, ly, w1, w2, w3, w4]
 refine aJ (bQ hE cX) mixed [3, 7, 9, 20, 25, 27] (by kernel_rfl) ?_
 simp [ac, ag, ae, am, ap, aa, au, ab, ao, ak, ah, ai, aj, w1, w2, w3, w4, ndP, egP]
 refine aE (bQ hE cX) mixed [.pure, .read, .pure, .pure, .read, .eff, .eff, .eff, .pure, .eff] [[],[0],[],[],[3],[3,4,2],[2,4,3,5],[5,3,4,2,6,0,1],[7,6,5,4,3,2,1,0],[0,1,2,3,4,5,6,7,8]] (by kernel_rfl) (by kernel_rfl) (by kernel_rfl) (by kernel_rfl) ?_
 simp [ac, ag, ae, am, ap, aa, au, ab, ao, ak, ah, ai, aj, n4, ly, w1, w2, w3, w4]
 refine aJ (bQ hE cX) mixed [3, 7, 9, 20, 25, 27] (by kernel_rfl) ?_
 simp [ac, ag, ae, am, ap, aa, au, ab, ao, ak, ah, ai, aj]
 refine AW.weak ((B9 4 rfl [6, 11] (by simp [bo]) (by decide)).trans (cU (ρ' := [(7, .ptr 2 1 9 0 0), (14, .ptr 4 1 5 0 0), (57, .int .i64 1), (58, .int .i64 0)]) (H' := [⟨25, 4, [[.slice 3 false (aq g.nodes), .slice 5 false (aq g.edges), .int .i64 g.nn, .int .i64 g.ne]], true, true⟩, ⟨0, 0, [[]], true, false⟩, ⟨242, 9, [[.slice 3 false (aq g.nodes), .slice 5 false (aq g.edges), .int .i64 g.nn, .int .i64 g.ne, .slice 6 false [], .slice 5 true [], .slice 1 false [[.str sA], [.str sB], [.str sC]], .mapo 1, .slice 1 true []]], true, false⟩, ⟨112, 3, [nV], true, true⟩, ⟨248, 5, [gj], true, true⟩]) 5 (by simp [aQ]) (by omega) (by simp [AV.cleanF, AV.clean2, AV.clean1]) ?_ rfl)) ?_
 ·intro b hb
  simp [List.take, df] at hb
  rcases hb with rfl | rfl | rfl | rfl | rfl
  ·exact .inl rfl
  ·exact .inr (by simp)
  ·exact .inr (by simp [AV.cleanF, AV.clean2, AV.clean1, AV.clean0])
  ·exact .inl rfl
  ·exact .inl rfl
 refine AW.weak (fu 2 0 8 1 79 rfl rfl rfl (by decide)) ?_
 refine aE (bQ hE cX) mixed [.pure, .pure, .pure, .pure, .read, .read, .eff, .eff, .pure, .pure, .eff] [[],[],[1],[1,2],[2,1,3],[],[5],[5,6,3,1,2,4],[7,6,5,4,3,2,1,0],[0,1,2,3,4,5,6,7,8],[8,7,6,5,4,3,2,1,0,9]] (by kernel_rfl) (by kernel_rfl) (by kernel_rfl) (by kernel_rfl) ?_
 simp [ac, ag, ae, am, ap, aa, au, ab, ao, ak, ah, ai, aj, gj, ndP, egP, nV]
 refine aJ (bQ hE cX) mixed [3, 7, 9, 20, 25, 27] (by kernel_rfl) ?_
 simp [ac, ag, ae, am, ap, aa, au, ab, ao, ak, ah, ai, aj, w1]
 refine ⟨rfl, ?_⟩
 simp [ac, ag, ae, am, ap, aa, au, ab, ao, ak, ah, ai, aj, hf2]
 rw [n5]
 simp only [fD, List.map]
 have hv : aX H2 6 (.own 5 (wkN g).length) = .slice 1 false (aq (wkN g)) := by simp [aX, hf5]
 simp [ac, ag, ae, am, ap, aa, au, ab, ao, ak, ah, ai, aj, hv, Ey, hf5]
 exact ⟨hln, Ft hgd⟩
def InQ (n : Int) : Prop := 1 <= n /\ n <= 1000000
theorem RQ {n : Int} (h : InQ n) : GdV 5 n := by
 obtain ⟨h1, h2⟩ := h
 exact ⟨by simp [jD], by simp [eW, vOf, bx, h1, h2]⟩
theorem RP {n : Int} (h : InQ n) : GdV 2 n := by
 obtain ⟨h1, h2⟩ := h
 refine ⟨by simp [jD], ?_⟩
 simp [eW, vOf, bx, inB]
 omega
theorem JT (b : Bool) : GdV 1 (tvI b) := by
 refine ⟨by simp [jD], ?_⟩
 cases b <;> simp [eW, vOf, bx, tvI]
theorem InQ.inR {n : Int} (h : InQ n) : InR n := by unfold InR; obtain ⟨h1, h2⟩ := h; omega
section
variable {g : Gra} {x y z : Int} {l : Nat} {H : List Blk}
def zg (g : Gra) (x y z : Int) (l : Nat) (s : ByteArray) (n : Int) : Prop := ∀ H', EvH g x y z l H' -> aK prog G0 319 [.ptr l 1 6 0 0, .str s] H' (aV (vOf 5 n)) H'
theorem S3 {s : ByteArray} {n : Int} (hn : InQ n) (hv : zg g x y z l s n) (k : EvH g x y z l H) : aK prog G0 181 [.ptr l 1 6 0 0, .agg (vaE s)] H (aV (vOf 5 n)) H :=
 S5 k (by decide) (RQ hn) λ H' k' => Nf k' hv
theorem Dm {s : ByteArray} {n : Int} (hn : InQ n) (hv : zg g x y z l s n) (k : EvH g x y z l H) : aK prog G0 181 [.ptr l 1 6 0 0, .agg (idE s)] H (aV (vOf 2 n)) H :=
 S6 k (by decide) (RP hn) (λ H' k' => S3 hn hv k') λ H' j k' hj => Q9 k' hj
theorem Kx {s t : ByteArray} {n m : Int} (hn : InQ n) (hm : InQ m) (hv : zg g x y z l s n) (hw : zg g x y z l t m) (k : EvH g x y z l H) : aK prog G0 181 [.ptr l 1 6 0 0, .agg (neE s t)] H (aV (vOf 1 (tvI (decide (n ≠ m))))) H :=
 LV k (by decide) (JT _) (λ H' k' => Dm hn hv k') (λ H' k' => Dm hm hw k') λ H' j k' hj => Ra k' hn.inR hm.inR hj
def df3 (x y z : Int) : Bool := decide (x ≠ y) && decide (y ≠ z) && decide (z ≠ x)
theorem Ri (hx : InQ x) (hy : InQ y) (hz : InQ z) (k : EvH g x y z l H) : aK prog G0 181 [.ptr l 1 6 0 0, .agg cdE] H (aV (vOf 1 (tvI (df3 x y z)))) H :=
 LV k (by decide) (JT _) (λ H' k' => LV k' (by decide) (JT _) (λ H2 k2 => Kx hx hy (λ _ q => LX q) (λ _ q => LY q) k2) (λ H2 k2 => Kx hy hz (λ _ q => LY q) (λ _ q => LZ q) k2) λ H2 j k2 hj => Ia k2 hj) (λ H' k' => Kx hz hx (λ _ q => LZ q) (λ _ q => LX q) k') λ H' j k' hj => Ia k' hj
end
def exN (rows : List (List AV)) (j : Nat) : Int := match rows[j]? with | some [_, _, .int _ n, _, _, _] => n | _ => 0
@[simp] theorem NW (x y z : Int) : exN (fv x y z) 0 = x := rfl
@[simp] theorem NX (x y z : Int) : exN (fv x y z) 1 = y := rfl
@[simp] theorem NY (x y z : Int) : exN (fv x y z) 2 = z := rfl
def rp (a : AV) (rows : List (List AV)) : Prop := ∃ (g : Gra) (x y z : Int), bq a = aG g /\ rows = fv x y z /\ InQ x /\ InQ y /\ InQ z
def BQ : PSp := λ args => match args with
 | [a, .agg e, .slice 6 _ rows] => some (rp a rows /\ e = cdE, .agg (vC 1 (tvI (df3 (exN rows 0) (exN rows 1) (exN rows 2)))))
 | _ => none
def nmE (e : List AV) : Nat := match e with
 | [_, _, _, _, _, _, _, _, .slice _ _ [[_, _, _, _, _, _, .str s, _, _]]] => if s = sA then 0 else if s = sB then 1 else 2
 | _ => 0
@[simp] theorem Ol : nmE (idE sA) = 0 := rfl
@[simp] theorem Om : nmE (idE sB) = 1 := rfl
@[simp] theorem On : nmE (idE sC) = 2 := rfl
def Ek : PSp := λ args => match args with
 | [a, .agg e, .slice 6 _ rows] => some (rp a rows /\ (e = idE sA ∨ e = idE sB ∨ e = idE sC), .agg (vC 2 (exN rows (nmE e))))
 | _ => none
@[reducible] noncomputable def LEv : List (Nat × Entry) := [(96, .pure wW), (180, .pure yz)]
noncomputable def CEv : Ctx := mkC prog G0 [(96, .pure wW), (180, .pure yz)]
@[simp] theorem TC : CEv.P = prog := rfl
@[simp] theorem TB : CEv.G = G0 := rfl
@[simp] theorem TA : CEv.S 96 = .pure wW /\ CEv.S 180 = .pure yz := ⟨rfl, rfl⟩
theorem Lh : aB CEv := aH (Rl) func96 (aH (Rn) func180 (ax _ _))
def gBx (g : Gra) : Blk := ⟨25, 4, [[.slice 3 false (aq g.nodes), .slice 5 false (aq g.edges), .int .i64 g.nn, .int .i64 g.ne]], true, true⟩
def evH (g : Gra) (x y z : Int) (o : Int) (s : ByteArray) (ks : List (List AV)) : List Blk := [gBx g, eBx o s ks, bZ, evB g x y z 3]
theorem evA {g : Gra} {x y z : Int} {o : Int} {s : ByteArray} {ks : List (List AV)} {κ n : Int} {a : AV} {b : Bool} (ha : bq a = aG g) (hq : IsQ (exE o s ks)) (hval : ∀ H', EvH g x y z 3 H' -> aK prog G0 181 [.ptr 3 1 6 0 0, .agg (exE o s ks)] H' (aV (vOf κ n)) H') :
  PureOK prog G0 118 (λ A => some (A = [a, .agg (exE o s ks), .slice 6 b (fv x y z)], .agg (vC κ n))) := by
 have hk : EvH g x y z 3 (evH g x y z o s ks) := ⟨rfl, λ b hb => by
  simp only [evH, mem_cons, not_mem_nil, or_false] at hb
  rcases hb with rfl | rfl | rfl | rfl
  ·exact b8 rfl
  ·exact b8 rfl
  ·exact b8 rfl
  ·exact .inr (by simp [evB, AV.cleanF, AV.clean2, AV.clean1, evH, AV.clean0])⟩
 have hw := hval _ hk
 obtain ⟨H, hH⟩ : ∃ H, evH g x y z o s ks = H := ⟨_, rfl⟩
 obtain ⟨A, hA⟩ : ∃ A : List AV, [.ptr 3 1 6 0 0, .agg (exE o s ks)] = A := ⟨_, rfl⟩
 rw [hH, hA, e9V] at hw
 have hE := aF hw func181 rfl (by decide)
 refine hU (C := CR 181 A H (.agg [.int .i64 κ, .int .i64 n, .int .i64 0, .str ⟨#[]⟩, .slice 5 false []]) H LEv) func118 rfl rfl rfl (by show 3 <= _; decide) (ay (iX hE Lh) mixed (hd := []) _ (by kernel_rfl) ?_)
 have n1 : (CR 181 A H (.agg [.int .i64 κ, .int .i64 n, .int .i64 0, .str ⟨#[]⟩, .slice 5 false []]) H LEv).S 96 = .pure wW := rfl
 have n2 : (CR 181 A H (.agg [.int .i64 κ, .int .i64 n, .int .i64 0, .str ⟨#[]⟩, .slice 5 false []]) H LEv).S 180 = .pure yz := rfl
 have hck : wW [.agg (exE o s ks)] = some (True, .int .i64 0) := by simp [wW, hq]
 have hcl : yz [.agg (vC κ n)] = some (True, .agg (vC κ n)) := by
  have e : (.agg (vC κ n) : AV) = Enc.enc (vOf κ n) := by simp [vOf, vC]
  rw [e]
  simp only [yz, aN]
  rw [Enc.dec_enc]
  simp [vOf]
 simp only [exE, vC] at hck hcl hA hH ⊢
 simp only [List.map, ha, dc]
 simp [ac, ag, ae, am, ap, aa, au, ab, ao, ak, ah, ai, aj, argsρ, aG, n1, hck]
 refine ⟨⟨by rw [<- hA], by rw [<- hH]; rfl⟩, ?_⟩
 rw [<- hH] at n2 ⊢
 simp only [evH, gBx, eBx, bZ, evB] at n2 ⊢
 simp [ac, ag, ae, am, ap, aa, au, ab, ao, ak, ah, ai, aj, n2, hcl]
theorem RM : PureOK prog G0 118 BQ := by
 refine ew λ avs ob r hp hob => ?_
 unfold BQ at hp
 split at hp
 case h_2 => cases hp
 rename_i a e b rows
 simp only [Option.some.injEq, Prod.mk.injEq] at hp
 obtain ⟨rfl, rfl⟩ := hp
 obtain ⟨⟨g, x, y, z, ha, rfl, hx, hy, hz⟩, rfl⟩ := hob
 exact evA (n := tvI (df3 x y z)) ha (.inl rfl) λ H' k => Ri hx hy hz k
theorem RN : PureOK prog G0 118 Ek := by
 refine ew λ avs ob r hp hob => ?_
 unfold Ek at hp
 split at hp
 case h_2 => cases hp
 rename_i a e b rows
 simp only [Option.some.injEq, Prod.mk.injEq] at hp
 obtain ⟨rfl, rfl⟩ := hp
 obtain ⟨⟨g, x, y, z, ha, rfl, hx, hy, hz⟩, rfl | rfl | rfl⟩ := hob
 ·exact evA (n := x) ha (.inr (.inl rfl)) λ H' k => Dm hx (λ _ q => LX q) k
 ·exact evA (n := y) ha (.inr (.inr (.inl rfl))) λ H' k => Dm hy (λ _ q => LY q) k
 ·exact evA (n := z) ha (.inr (.inr (.inr rfl))) λ H' k => Dm hz (λ _ q => LZ q) k
noncomputable def CTs : Ctx := mkC prog G0 [(118, .pure BQ), (239, .pure yH)]
@[simp] theorem Vj : CTs.P = prog := rfl
@[simp] theorem Vi : CTs.G = G0 := rfl
@[simp] theorem Vh : CTs.S 118 = .pure BQ /\ CTs.S 239 = .pure yH := ⟨rfl, rfl⟩
theorem Lw : aB CTs := aH (RM) func118 (aH (AH) func239 (ax _ _))
theorem Hi {a : AV} {x y z : Int} {b : Bool} : BQ [a, .agg cdE, .slice 6 b (fv x y z)] = some (rp a (fv x y z) /\ True, .agg (vC 1 (tvI (df3 x y z)))) := by
 simp [BQ]
def BU : PSp := λ args => match args with
 | [a, .agg e, .slice 6 _ rows] => some (rp a rows /\ e = cdE, .int .i64 (if df3 (exN rows 0) (exN rows 1) (exN rows 2) then 2 else 0))
 | _ => none
theorem pD {g : Gra} {x y z : Int} (hx : InQ x) (hy : InQ y) (hz : InQ z) : rp (aG g) (fv x y z) := ⟨g, x, y, z, by simp [aG, bq], rfl, hx, hy, hz⟩
theorem SX : PureOK prog G0 175 BU := by
 refine ew λ avs ob r hp hob => ?_
 unfold BU at hp
 split at hp
 case h_2 => cases hp
 rename_i a e b rows
 simp only [Option.some.injEq, Prod.mk.injEq] at hp
 obtain ⟨rfl, rfl⟩ := hp
 obtain ⟨⟨g, x, y, z, ha, rfl, hx, hy, hz⟩, rfl⟩ := hob
 refine hU (C := CTs) func175 rfl rfl rfl (by show 3 <= _; decide) (ay Lw mixed (hd := []) _ (by kernel_rfl) ?_)
 have h1 := Hi (a := aG g) (x := x) (y := y) (z := z) (b := false)
 rw [eq_true (pD (g := g) hx hy hz)] at h1
 have h2 := uj (df3 x y z)
 rw [eq_true (⟨df3 x y z, rfl⟩ : ∃ c : Bool, vOf 1 (tvI (df3 x y z)) = vOf 1 (if c then 1 else 0))] at h2
 obtain ⟨E, hE⟩ : ∃ E, cdE = E := ⟨_, rfl⟩
 have hlen : E.length = 9 := by rw [<- hE]; rfl
 have hnr : E.map gi = E := by rw [<- hE]; rfl
 have hal : E.all AV.isDeep = true := by rw [<- hE]; rfl
 have hvw : ∀ H, E.map (aX H 5) = E := λ H => by rw [<- hE]; rfl
 have htk : E.take 9 = E := by rw [<- hE]; rfl
 obtain ⟨u, hu⟩ : ∃ u : Int, (if df3 x y z = true then 2 else 0) = u := ⟨_, rfl⟩
 obtain ⟨t, ht⟩ : ∃ t, tvI (df3 x y z) = t := ⟨_, rfl⟩
 rw [hu] at h2
 rw [ht] at h1 h2
 rw [hE] at h1 ⊢
 simp only [aG, vC] at h1 h2
 simp only [List.map, ha, dc, aG]
 simp [ac, ag, ae, am, ap, aa, au, ab, ao, ak, ah, ai, aj, argsρ, h1, h2, hlen, hnr, hal, htk, hvw, AV.deepArg]
 exact hu.symm
def rvN (row : List (List AV)) (j : Nat) : Int := match row[j]? with | some [_, .int _ n, _, _, _] => n | _ => 0
def ri (x y z : Int) : List (List AV) := [vC 5 x, vC 5 y, vC 5 z]
def colE : List (List AV) := [[.str sA], [.str sB], [.str sC]]
@[simp] theorem W6 (x y z : Int) : rvN (ri x y z) 0 = x := rfl
@[simp] theorem W7 (x y z : Int) : rvN (ri x y z) 1 = y := rfl
@[simp] theorem W8 (x y z : Int) : rvN (ri x y z) 2 = z := rfl
theorem An (b c : Bool) (x y z : Int) : nX [.slice 1 b colE, .slice 5 c (ri x y z)] = some (True, .slice 6 false (fv x y z)) := by
 have e1 : colE = aq [sA, sB, sC] := rfl
 have e2 : ri x y z = aq [vOf 5 x, vOf 5 y, vOf 5 z] := by simp [ri, vC, vOf, aq]
 have e3 : nU [sA, sB, sC] [vOf 5 x, vOf 5 y, vOf 5 z] = fv x y z := by simp [nU, Jr, fv, vOf]
 have e4 : bq (.slice 1 b (aq [sA, sB, sC])) = Enc.enc [sA, sB, sC] := rfl
 rw [e1, e2]
 simp [nX, aW, e3]
theorem Ej (b c : Bool) : nX [.slice 1 b [], .slice 5 c []] = some (True, .slice 6 false []) := by
 have e1 : ([] : List (List AV)) = aq ([] : List ByteArray) := rfl
 simp [nX, aW, nU]
theorem Hs {a : AV} {x y z : Int} {b : Bool} : BU [a, .agg cdE, .slice 6 b (fv x y z)] = some (rp a (fv x y z) /\ True, .int .i64 (if df3 x y z then 2 else 0)) := by
 simp [BU]
 rfl
def En : PSp := λ args => match args with
 | [a, .slice 9 _ w, .slice 1 _ cols, .slice 5 _ row] => some (∃ (g : Gra) (x y z : Int), bq a = aG g /\ w = [cdE] /\ cols = colE /\ row = ri x y z /\ InQ x /\ InQ y /\ InQ z, .bool (df3 (rvN row 0) (rvN row 1) (rvN row 2)))
 | _ => none
noncomputable def CHd : Ctx := mkC prog G0 [(114, .pure nX), (175, .pure BU)]
@[simp] theorem TL : CHd.P = prog := rfl
@[simp] theorem TK : CHd.G = G0 := rfl
@[simp] theorem TJ : CHd.S 114 = .pure nX /\ CHd.S 175 = .pure BU := ⟨rfl, rfl⟩
theorem EH : aB CHd := aH (JM) func114 (aH (SX) func175 (ax _ _))
theorem RS : PureOK prog G0 116 En := by
 refine ew λ avs ob r hp hob => ?_
 unfold En at hp
 split at hp
 case h_2 => cases hp
 rename_i a b1 w b2 cols b3 row
 simp only [Option.some.injEq, Prod.mk.injEq] at hp
 obtain ⟨rfl, rfl⟩ := hp
 obtain ⟨g, x, y, z, ha, rfl, rfl, rfl, hx, hy, hz⟩ := hob
 refine hU (C := CHd) func116 rfl rfl rfl (by show 4 <= _; decide) (ay EH mixed (hd := [1]) _ (by kernel_rfl) ?_)
 have h0 := An false false x y z
 have h1 := Hs (a := aG g) (x := x) (y := y) (z := z) (b := false)
 rw [eq_true (pD (g := g) hx hy hz)] at h1
 obtain ⟨E, hE⟩ : ∃ E, cdE = E := ⟨_, rfl⟩
 have hlen : E.length = 9 := by rw [<- hE]; rfl
 have hnr : E.map gi = E := by rw [<- hE]; rfl
 have hal : E.all AV.isDeep = true := by rw [<- hE]; rfl
 have hvw : ∀ H, E.map (aX H 5) = E := λ H => by rw [<- hE]; rfl
 have htk : E.take 9 = E := by rw [<- hE]; rfl
 rw [hE] at h1 ⊢
 simp only [aG] at h1
 simp only [List.map, ha, dc, aG]
 simp [ac, ag, ae, am, ap, aa, au, ab, ao, ak, ah, ai, aj, argsρ]
 refine aE EH mixed [.pure, .pure, .pure, .pure, .read, .pure, .pure, .read, .pure, .pure, .read, .read, .pure, .pure, .pure] [[],[0],[0,1],[1,0,2],[2,0,1,3],[2,0,1,3],[3,1,0,2,5],[5,2,0,1,3,6],[2,0,1,3],[2,0,1,3],[9,3,1,0,2,8],[8,9,10,6,5,7,3,1,0,2,4],[4,2,0,1,3,7,5,6,10,9,8,11],[11,8,9,10,6,5,7,4,12,2,0,1,3],[3,1,0,2,12,4,7,5,6,10,9,8,11,13]] (by kernel_rfl) (by kernel_rfl) (by kernel_rfl) (by kernel_rfl) ?_
 simp [ac, ag, ae, am, ap, aa, au, ab, ao, ak, ah, ai, aj, h0, h1, hlen, hnr, hal, htk, hvw, AV.deepArg]
theorem sy {P : Program} {G : Nat -> AV} {base : FuncId -> Entry} {bB : FuncId -> List AV -> List Blk -> Bool} {fs fz : List FuncId} {fuel : Nat} (hB : ∀ g, dv P G g (base g)) (hbB : ∀ f args H, bB f args H = true -> eX ⟨P, base, G⟩ f args H) (hfs : (fs.all λ g => GL P g) = true) (hM : P.follows .mixedOrders = true) (n : Nat) {f : FuncId} {A : List AV} {H : List Blk} {r0 : AV} {H0 : List Blk}
  (hf : fs.contains f = true) (hk : (fnB ⟨P, m7 P G base bB fs fz fuel n, G⟩ (λ f args H => (decide (0 < n) && fs.contains f) || bB f args H) fuel f A H).map (l9 (fz.contains f) H.length) = some (r0, H0)) : aK P G f A H r0 H0 := by
 have h := (lF hB hbB (λ g hg => List.all_eq_true.1 hfs g hg) hM fuel (n + 1) (fz := fz)).1 f
 unfold m7 at h
 simp only at h
 rw [if_pos hf] at h
 exact A4 h.1 (ob := True) (by show ij _ = _; rw [hk]; rfl) trivial
def tk (k a n : Int) (s : List UInt8) : List AV := [.int .i64 k, .int .i64 a, .int .i64 n, .int .i64 0, .str ⟨s.toArray⟩]
def qS : ByteArray := ⟨#[77, 65, 84, 67, 72, 32, 40, 97, 41, 45, 45, 40, 98, 41, 45, 45, 40, 99, 41, 45, 45, 40, 97, 41, 32, 87, 72, 69, 82, 69, 32, 105, 100, 40, 97, 41, 32, 60, 62, 32, 105, 100, 40, 98, 41, 32, 65, 78, 68, 32, 105, 100, 40, 98, 41, 32, 60, 62, 32, 105, 100, 40, 99, 41, 32, 65, 78, 68, 32, 105, 100, 40, 99, 41, 32, 60, 62, 32, 105, 100, 40, 97, 41, 32, 82, 69, 84, 85, 82, 78, 32, 68, 73, 83, 84, 73, 78, 67, 84, 32, 105, 100, 40, 97, 41, 32, 65, 83, 32, 97, 44, 32, 105, 100, 40, 98, 41, 32, 65, 83, 32, 98, 44, 32, 105, 100, 40, 99, 41, 32, 65, 83, 32, 99]⟩
def xj : AV := .slice 5 false [tk 1 0 5 [77, 65, 84, 67, 72], tk 5 6 1 [40], tk 2 7 1 [97], tk 5 8 1 [41], tk 5 9 1 [45], tk 5 10 1 [45], tk 5 11 1 [40], tk 2 12 1 [98], tk 5 13 1 [41], tk 5 14 1 [45], tk 5 15 1 [45], tk 5 16 1 [40], tk 2 17 1 [99], tk 5 18 1 [41], tk 5 19 1 [45], tk 5 20 1 [45], tk 5 21 1 [40], tk 2 22 1 [97], tk 5 23 1 [41], tk 1 25 5 [87, 72, 69, 82, 69], tk 2 31 2 [105, 100], tk 5 33 1 [40], tk 2 34 1 [97], tk 5 35 1 [41], tk 5 37 2 [60, 62], tk 2 40 2 [105, 100], tk 5 42 1 [40], tk 2 43 1 [98], tk 5 44 1 [41], tk 1 46 3 [65, 78, 68], tk 2 50 2 [105, 100], tk 5 52 1 [40], tk 2 53 1 [98], tk 5 54 1 [41], tk 5 56 2 [60, 62], tk 2 59 2 [105, 100], tk 5 61 1 [40], tk 2 62 1 [99], tk 5 63 1 [41], tk 1 65 3 [65, 78, 68], tk 2 69 2 [105, 100], tk 5 71 1 [40], tk 2 72 1 [99], tk 5 73 1 [41], tk 5 75 2 [60, 62], tk 2 78 2 [105, 100], tk 5 80 1 [40], tk 2 81 1 [97], tk 5 82 1 [41], tk 1 84 6 [82, 69, 84, 85, 82, 78], tk 1 91 8 [68, 73, 83, 84, 73, 78, 67, 84], tk 2 100 2 [105, 100], tk 5 102 1 [40], tk 2 103 1 [97], tk 5 104 1 [41], tk 1 106 2 [65, 83], tk 2 109 1 [97], tk 5 110 1 [44], tk 2 112 2 [105, 100], tk 5 114 1 [40], tk 2 115 1 [98], tk 5 116 1 [41], tk 1 118 2 [65, 83], tk 2 121 1 [98], tk 5 122 1 [44], tk 2 124 2 [105, 100], tk 5 126 1 [40], tk 2 127 1 [99], tk 5 128 1 [41], tk 1 130 2 [65, 83], tk 2 133 1 [99], tk 0 134 0 []]
def fsL : List FuncId := [36, 72, 73, 74, 75, 130, 131, 132, 133, 134, 135, 204, 205]
theorem SW : PureOK prog G0 36 (cM [.str qS] (.tup [xj, .int .i64 0, .int .i64 0])) :=
 cv (fs := fsL) (fz := [36]) (fuel := 1000) (eo fq) (bB := bbL LBs) (em lM) (by kernel_rfl) mixed 10 (r0 := .tup [xj, .int .i64 0, .int .i64 0]) (H0 := []) (by kernel_rfl) (by kernel_rfl) rfl
def v0 : List AV := [.int .i64 0, .int .i64 0, .int .i64 0, .str ⟨#[]⟩, .slice 5 false []]
def cl1 : List AV := [.int .i64 1, .bool false, .bool false, .slice 3 false [[.str ⟨#[]⟩, .slice 3 false [ndP sA, ndP sB, ndP sC, ndP sA], .slice 7 false [egP, egP, egP]]], .slice 9 false [cdE], .int .i64 0, .int .i64 0, .int .i64 0, .int .i64 0, .str ⟨#[]⟩, .slice 5 false [], .str ⟨#[]⟩, .bool false, .slice 9 false [], .str ⟨#[]⟩, .slice 10 false [], .slice 10 false [], .int .i64 (-1), .int .i64 (-1), .slice 13 false [], .slice 1 false []]
def cl2 : List AV := [.int .i64 4, .bool false, .bool true, .slice 3 false [], .slice 9 false [], .int .i64 0, .int .i64 0, .int .i64 0, .int .i64 0, .str ⟨#[]⟩, .slice 5 false [], .str ⟨#[]⟩, .bool false, .slice 9 false [], .str ⟨#[]⟩, .slice 10 false [idE sA ++ [.str sA], idE sB ++ [.str sB], idE sC ++ [.str sC]], .slice 10 false [], .int .i64 (-1), .int .i64 (-1), .slice 13 false [], .slice 1 false []]
def fsQ : List FuncId := [17,18,19,39,40,41,42,43,44,45,46,47,76,77,78,79,80,81,82,83,84,85,86,87,88,91,112,127,136,137,138,140,172,201,202,211,217,219,220,273,284,285,288,351,397,436,456,477,478,486]
def fzQ : List FuncId := [42, 43, 81, 83, 44, 45, 84, 140, 220, 284, 351, 397, 436, 456, 477, 478, 486, 87, 88, 18]
def qH : List Blk := [⟨32, 1, [[.slice 21 true []]], true, true⟩, ⟨32, 1, [[.slice 21 true []]], true, true⟩, ⟨3, 1, [[.int .i64 0]], true, true⟩, ⟨27, 1, [[.int .i64 0]], true, true⟩, ⟨106, 1, [[xj]], true, true⟩]
def qH2 (a b : Int) : List Blk := [⟨32, 1, [[.slice 21 true []]], true, true⟩, ⟨32, 1, [[.own 5 2]], true, false⟩, ⟨3, 1, [[.int .i64 a]], true, true⟩, ⟨27, 1, [[.int .i64 b]], true, true⟩, ⟨106, 1, [[.slice 5 false [tk 0 134 0 []]]], true, true⟩, ⟨69, 21, [cl1, cl2], true, true⟩]
theorem Sl : aK prog G0 17 [.ptr 4 1 1 0 0, .ptr 1 1 1 0 0] qH (.tup []) (qH2 0 0) :=
 sy (fs := fsQ) (fz := fzQ) (fuel := 400) (eo fq) (bB := bbL LBs) (em lM) (by kernel_rfl) mixed 40 (by kernel_rfl) (by kernel_rfl)
structure RwL where
 rows : List (List AV)
instance : Enc RwL where
 sz := 1
 cells r := [.slice 2 false r.rows]
 enc r := .slice 2 false r.rows
 unc c := match c with | [.slice _ _ rows] => ⟨rows⟩ | _ => ⟨[]⟩
 dec v := match v with | .slice _ _ rows => ⟨rows⟩ | _ => ⟨[]⟩
 unc_cells _ := rfl
 dec_enc _ := rfl
@[simp] theorem Py (r : RwL) : Enc.enc r = .slice 2 false r.rows := rfl
theorem Jz : PureOK prog G0 233 (aN (λ (_ : RwL) => True) (λ r => .slice 2 true r.rows)) := by
 refine KP aR mixed func233 rfl rfl rfl (by kernel_rfl) (by decide) (λ l _ => ?_)
 simp [ac, ag, ae, am, ap, aa, au, ab, ao, ak, ah, ai, aj]
def yA : PSp := λ args => match args with
 | [.slice 2 _ rows] => some (True, .slice 2 true rows)
 | _ => none
theorem Rp : PureOK prog G0 233 yA := by
 intro w X args avs ob r hX hG hsz harg hp hob
 unfold yA at hp
 split at hp
 case h_2 => cases hp
 rename_i b rows
 simp only [Option.some.injEq, Prod.mk.injEq] at hp
 obtain ⟨_, rfl⟩ := hp
 exact Jz w X args _ (bq (.slice 2 b rows) = .slice 2 false rows /\ True) _ hX hG hsz harg rfl ⟨by simp, trivial⟩
theorem Ro : nQ (.frz yA) := λ A ob r hq => by
 unfold yA at hq
 split at hq
 ·simp only [Option.some.injEq, Prod.mk.injEq] at hq
  rw [<- hq.1]; trivial
 ·cases hq
noncomputable def CBt : Ctx := mkC prog G0 [(233, .frz yA), (210, .pure iU), (206, .pure nc), (291, .gen gSor)]
@[simp] theorem Tj : CBt.P = prog := rfl
@[simp] theorem Ti : CBt.G = G0 := rfl
@[simp] theorem Th : CBt.S 233 = .frz yA /\ CBt.S 210 = .pure iU /\ CBt.S 206 = .pure nc /\ CBt.S 291 = .gen gSor := ⟨rfl, rfl, rfl, rfl⟩
theorem Ld : aB CBt := aD (lU (Rp) func233 rfl (by decide)) (aH (CY) func210 (aH (LQ) func206 (aD (aF (OX) func291 rfl (by decide)) (ax _ _))))
@[reducible] noncomputable def LBt : List (Nat × Entry) := [(233, .frz yA), (210, .pure iU), (206, .pure nc), (291, .gen gSor)]
theorem QW : ∀ p ∈ LBt, nQ p.2 := by
 intro p hp
 simp only [LBt, mem_cons, not_mem_nil, or_false] at hp
 rcases hp with rfl | rfl | rfl | rfl
 ·exact Ro
 ·exact CU
 ·exact LP
 ·exact OW
theorem LI : aB (mkC prog G0 LBt) := Ld
def fsC : List FuncId := fsE ++ [20, 52, 92, 93, 94, 95, 97, 98, 102, 141, 142, 143, 144, 145, 146, 147, 148, 149, 150, 152, 153, 154, 155, 156, 157, 168, 221, 223, 224, 225, 286]
def fsB : List FuncId := fsC ++ [21, 53, 99, 100, 161, 162, 163, 164, 165, 166, 230, 231, 232, 289, 290, 292]
def qV : AV := .agg [.slice 21 false [cl1, cl2]]
theorem Ny : PureOK prog G0 52 (cM [.agg cl1] (.int .i64 0)) :=
 cv (fs := fsC) (fz := []) (fuel := 400) (eo fq) (bB := bbL LBs) (em lM) (by kernel_rfl) mixed 30 (r0 := .int .i64 0) (H0 := []) (by kernel_rfl) (by kernel_rfl) rfl
theorem Nz : PureOK prog G0 52 (cM [.agg cl2] (.int .i64 0)) :=
 cv (fs := fsC) (fz := []) (fuel := 400) (eo fq) (bB := bbL LBs) (em lM) (by kernel_rfl) mixed 30 (r0 := .int .i64 0) (H0 := []) (by kernel_rfl) (by kernel_rfl) rfl
theorem SZ : PureOK prog G0 22 (cM [qV] (.bool false)) :=
 cv (fs := [22, 54, 55, 101]) (fz := []) (fuel := 400) (eo fq) (bB := bbL LBs) (em lM) (by kernel_rfl) mixed 30 (r0 := .bool false) (H0 := []) (by kernel_rfl) (by kernel_rfl) rfl
theorem Rg : PureOK prog G0 21 (cM [qV] (.tup [.slice 1 false [[.str sA], [.str sB], [.str sC]], .int .i64 0, .int .i64 0])) :=
 cv (fs := fsB) (fz := [21]) (fuel := 400) (eo LI) (bB := bbL LBt) (em QW) (by kernel_rfl) mixed 30 (r0 := .tup [.slice 1 false [[.str sA], [.str sB], [.str sC]], .int .i64 0, .int .i64 0]) (H0 := []) (by kernel_rfl) (by kernel_rfl) rfl
def fI (x : Int) (k : List Int) : List Int := if x ∈ k then k else k ++ [x]
def ek (d : List (Int × List Int)) (a x : Int) : List (Int × List Int) := d.map λ p => if p.1 = a then (p.1, fI x p.2) else p
def kOf (d : List (Int × List Int)) (a : Int) : Option (List Int) := (d.find? λ p => decide (p.1 = a)).map (·.2)
def ir (d : List (Int × List Int)) (e : Ed) : List (Int × List Int) := if e.f = e.t then d else ek (ek d e.f e.t) e.t e.f
def wv (ns : List Int) (es : List Ed) : List (Int × List Int) := es.foldl ir (ns.map λ a => (a, []))
theorem wh {x y : Int} {k : List Int} : y ∈ fI x k ↔ y ∈ k ∨ y = x := by
 unfold fI
 split
 ·rename_i h
  constructor
  ·exact .inl
  ·rintro (h' | rfl)
   ·exact h'
   ·exact h
 ·simp
theorem lz {x : Int} {k : List Int} (h : k.Nodup) : (fI x k).Nodup := by
 unfold fI
 split
 ·exact h
 ·rename_i hx
  exact List.nodup_append.2 ⟨h, by simp, λ a ha b hb => by rw [mem_singleton.1 hb]; rintro rfl; exact hx ha⟩
theorem o6 (d : List (Int × List Int)) (a x : Int) : (ek d a x).map (·.1) = d.map (·.1) := by
 unfold ek
 rw [List.map_map]
 apply map_congr_left
 intro p _
 show (if p.1 = a then (p.1, fI x p.2) else p).1 = p.1
 split <;> rfl
theorem pN (a x b : Int) : ∀ d : List (Int × List Int), kOf (ek d a x) b = (kOf d b).map λ k => if b = a then fI x k else k
 | [] => rfl
 | p :: d => by
  have ih := pN a x b d
  unfold kOf ek at ih ⊢
  rw [map_cons, find?_cons, find?_cons]
  have e : (if p.1 = a then (p.1, fI x p.2) else p).1 = p.1 := by split <;> rfl
  rw [e]
  by_cases h : p.1 = b
  ·rw [decide_eq_true h]
   subst h
   by_cases h2 : p.1 = a <;> simp [h2]
  ·rw [decide_eq_false h]
   exact ih
theorem B1 (d : List (Int × List Int)) (e : Ed) : (ir d e).map (·.1) = d.map (·.1) := by
 unfold ir
 split
 ·rfl
 ·rw [o6, o6]
theorem wx (ns : List Int) : ∀ es : List Ed, ∀ d, (es.foldl ir d).map (·.1) = d.map (·.1)
 | [], d => rfl
 | e :: es, d => by rw [List.foldl_cons, wx ns es, B1]
theorem wA (b : Int) : ∀ (es : List Ed) (d : List (Int × List Int)) (k : List Int), kOf d b = some k -> ∃ k', kOf (es.foldl ir d) b = some k' /\ (k.Nodup -> k'.Nodup) /\
  ∀ x, x ∈ k' ↔ x ∈ k ∨ ∃ e ∈ es, e.f ≠ e.t /\ ((e.f = b /\ e.t = x) ∨ (e.t = b /\ e.f = x))
 | [], d, k, h => ⟨k, h, id, λ x => by simp⟩
 | e :: es, d, k, h => by
  rw [List.foldl_cons]
  have hk : ∃ k1, kOf (ir d e) b = some k1 /\ (k.Nodup -> k1.Nodup) /\ ∀ x, x ∈ k1 ↔ x ∈ k ∨ (e.f ≠ e.t /\ ((e.f = b /\ e.t = x) ∨ (e.t = b /\ e.f = x))) := by
   unfold ir
   split
   ·rename_i he
    exact ⟨k, h, id, λ x => ⟨.inl, λ h => h.elim id λ h => absurd he h.1⟩⟩
   ·rename_i he
    have hk1 : kOf (ek (ek d e.f e.t) e.t e.f) b = some (if b = e.t then fI e.f (if b = e.f then fI e.t k else k) else (if b = e.f then fI e.t k else k)) := by
     rw [pN, pN, h]; rfl
    refine ⟨_, hk1, λ hn => ?_, λ x => ?_⟩
    ·split <;> split <;> first | exact lz (lz hn) | exact lz hn | exact hn
    ·by_cases c1 : b = e.t
     ·by_cases c2 : b = e.f
      ·exact absurd (c2.symm.trans c1) he
      ·rw [if_pos c1, if_neg c2, wh]
       constructor
       ·rintro (h | rfl)
        ·exact .inl h
        ·exact .inr ⟨he, .inr ⟨c1.symm, rfl⟩⟩
       ·rintro (h | ⟨_, ⟨h1, h2⟩ | ⟨h1, h2⟩⟩)
        ·exact .inl h
        ·exact absurd h1.symm c2
        ·exact .inr h2.symm
     ·by_cases c2 : b = e.f
      ·rw [if_neg c1, if_pos c2, wh]
       constructor
       ·rintro (h | rfl)
        ·exact .inl h
        ·exact .inr ⟨he, .inl ⟨c2.symm, rfl⟩⟩
       ·rintro (h | ⟨_, ⟨h1, h2⟩ | ⟨h1, h2⟩⟩)
        ·exact .inl h
        ·exact .inr h2.symm
        ·exact absurd h1.symm c1
      ·rw [if_neg c1, if_neg c2]
       constructor
       ·exact .inl
       ·rintro (h | ⟨_, ⟨h1, h2⟩ | ⟨h1, h2⟩⟩)
        ·exact h
        ·exact absurd h1.symm c2
        ·exact absurd h1.symm c1
  obtain ⟨k1, h1, h2, h3⟩ := hk
  obtain ⟨k', q1, q2, q3⟩ := wA b es (ir d e) k1 h1
  refine ⟨k', q1, λ hn => q2 (h2 hn), λ x => ?_⟩
  rw [q3, h3]
  constructor
  ·rintro ((h | h) | ⟨e', he', h⟩)
   ·exact .inl h
   ·exact .inr ⟨e, List.mem_cons_self, h⟩
   ·exact .inr ⟨e', List.mem_cons_of_mem _ he', h⟩
  ·rintro (h | ⟨e', he', h⟩)
   ·exact .inl (.inl h)
   ·rcases mem_cons.1 he' with rfl | he'
    ·exact .inl (.inr h)
    ·exact .inr ⟨e', he', h⟩
theorem zM {b : Int} : ∀ {ns : List Int}, b ∈ ns -> kOf (ns.map λ a => (a, ([] : List Int))) b = some []
 | a :: ns, h => by
  unfold kOf
  rw [map_cons, find?_cons]
  by_cases c : a = b
  ·simp [c]
  ·simp only [c, decide_false]
   exact zM ((mem_cons.1 h).resolve_left λ e => c e.symm)
theorem Bw {ns : List Int} {es : List Ed} {b : Int} (h : b ∈ ns) : ∃ k, kOf (wv ns es) b = some k /\ k.Nodup /\ ∀ x, x ∈ k ↔ gz es b x = true := by
 obtain ⟨k, h1, h2, h3⟩ := wA b es _ _ (zM h)
 refine ⟨k, h1, h2 List.nodup_nil, λ x => ?_⟩
 rw [h3]
 simp only [not_mem_nil, false_or, gz, Bool.and_eq_true, decide_eq_true_eq, any_eq_true, Bool.or_eq_true]
 constructor
 ·rintro ⟨e, he, hne, ⟨rfl, rfl⟩ | ⟨rfl, rfl⟩⟩
  ·exact ⟨hne, e, he, .inl ⟨rfl, rfl⟩⟩
  ·exact ⟨λ q => hne q.symm, e, he, .inr ⟨rfl, rfl⟩⟩
 ·rintro ⟨hne, e, he, ⟨rfl, rfl⟩ | ⟨rfl, rfl⟩⟩
  ·exact ⟨e, he, hne, .inl ⟨rfl, rfl⟩⟩
  ·exact ⟨e, he, λ q => hne q.symm, .inr ⟨rfl, rfl⟩⟩
theorem qK {ns : List Int} {es : List Ed} (hn : ns.Nodup) (he : ∀ e ∈ es, e.f ∈ ns /\ e.t ∈ ns) {b : Int} {k : List Int} (hk : k.Nodup) (hm : ∀ x, x ∈ k ↔ gz es b x = true) : k.Perm (ns.filter (gz es b)) := by
 refine (List.perm_ext_iff_of_nodup hk (hn.filter _)).2 λ x => ?_
 rw [hm, mem_filter]
 constructor
 ·intro h
  refine ⟨?_, h⟩
  simp only [gz, Bool.and_eq_true, decide_eq_true_eq, any_eq_true, Bool.or_eq_true] at h
  obtain ⟨_, e, hee, ⟨rfl, rfl⟩ | ⟨rfl, rfl⟩⟩ := h
  ·exact (he e hee).2
  ·exact (he e hee).1
 ·exact λ h => h.2
theorem xp {r : Int -> Int -> Bool} {k l : List Int} (h : k.Perm l) : eN r k = eN r l := by
 unfold eN
 have h1 : (k.map λ b => (k.filter (r b)).length) = k.map λ b => (l.filter (r b)).length := map_congr_left λ b _ => (h.filter _).length_eq
 rw [h1]
 exact (h.map _).sum_nat
def nBk (n : Nod) : Blk := ⟨48, 3, [Enc.cells n], true, true⟩
def mBk (k : List Int) : Blk := ⟨1, 0, [cQ k], true, false⟩
def nbC : List Nod -> List (Int × List Int) -> List Blk
 | n :: ns, p :: d => nBk n :: mBk p.2 :: nbC ns d
 | _, _ => []
def gA : Nat -> List (Int × List Int) -> List AV
 | _, [] => []
 | o, p :: d => .tup [.int .i64 p.1, .mapo o] :: gA (o + 2) d
def pos (a : Int) : List (Int × List Int) -> Option Nat
 | [] => none
 | p :: d => if p.1 = a then some 0 else (pos a d).map (· + 1)
def gBk (g : Gra) : Blk := ⟨25, 4, [[.slice 3 false (aq g.nodes), .slice 5 false (aq g.edges), .int .i64 g.nn, .int .i64 g.ne]], true, true⟩
def nbH (g : Gra) (ns : List Nod) (d : List (Int × List Int)) : List Blk := gBk g :: ⟨1, 0, [gA 3 d], true, false⟩ :: nbC ns d
theorem zY : ∀ {ns : List Nod} {d : List (Int × List Int)}, ns.length = d.length -> (nbC ns d).length = 2 * d.length
 | [], [], _ => rfl
 | n :: ns, p :: d, h => by
  have := zY (ns := ns) (d := d) (by simpa using h)
  simp only [nbC, length_cons, this]
  omega
theorem il (g : Gra) {ns : List Nod} {d : List (Int × List Int)} (h : ns.length = d.length) : (nbH g ns d).length = 2 * d.length + 2 := by
 simp [nbH, zY h]
theorem vK : ∀ (o : Nat) (d : List (Int × List Int)), (gA o d).length = d.length
 | _, [] => rfl
 | o, p :: d => by simp [gA, vK (o + 2) d]
theorem r8 (k : IntKind) (a : Int) : ∀ (d : List (Int × List Int)) (o : Nat), ah (.int k a) (gA o d) = (pos a d).map λ i => .mapo (o + 2 * i)
 | [], _ => rfl
 | p :: d, o => by
  have ih := r8 k a d (o + 2)
  show (if (p.1 == a) = true then some _ else ah (.int k a) (gA (o + 2) d)) = _
  unfold pos
  by_cases h : p.1 = a
  ·simp [h]
  ·simp only [h, beq_iff_eq, if_false]
   rw [ih, Option.map_map]
   cases pos a d with
   | none => rfl
   | some i => simp; omega
theorem l8 {a : Int} : ∀ {d : List (Int × List Int)}, a ∈ d.map (·.1) -> ∃ i k, pos a d = some i /\ kOf d a = some k /\ i < d.length
 | p :: d, h => by
  unfold pos kOf
  rw [find?_cons]
  by_cases c : p.1 = a
  ·exact ⟨0, p.2, by rw [if_pos c], by simp [c], by simp⟩
  ·obtain ⟨i, k, h1, h2, h3⟩ := l8 (d := d) ((mem_cons.1 h).resolve_left λ e => c e.symm)
   exact ⟨i + 1, k, by rw [if_neg c, h1]; rfl, by simp only [c, decide_false]; exact h2, by simp; omega⟩
theorem r9 (a : Int) (l : Nat) : ∀ {d : List (Int × List Int)} {o : Nat}, a ∉ d.map (·.1) -> l = o + 2 * d.length -> ai (.int .i64 a) (.mapo l) (gA o d) = gA o (d ++ [(a, [])])
 | [], o, _, h => by rw [h]; rfl
 | p :: d, o, h, hl => by
  rw [map_cons, mem_cons, not_or] at h
  have ih := r9 a l (d := d) (o := o + 2) h.2 (by rw [hl, length_cons]; omega)
  show (if (p.1 == a) = true then _ else AV.tup [.int .i64 p.1, .mapo o] :: ai (.int .i64 a) (.mapo l) (gA (o + 2) d)) = _
  rw [if_neg (by simpa using λ e => h.1 e.symm), ih]
  rfl
theorem sc (x : Int) : ∀ k : List Int, ai (.int .i64 x) (.bool true) (cQ k) = cQ (fI x k)
 | [] => rfl
 | y :: k => by
  have ih := sc x k
  show (if (y == x) = true then AV.tup [.int .i64 y, .bool true] :: cQ k else AV.tup [.int .i64 y, .bool true] :: ai (.int .i64 x) (.bool true) (cQ k)) = _
  unfold fI at ih ⊢
  by_cases h : y = x
  ·subst h; simp [cQ]
  ·have h' : ¬ x = y := λ e => h e.symm
   rw [if_neg (by simpa using h), ih]
   by_cases hx : x ∈ k <;> simp [hx, h', cQ]
theorem vJ (a x : Int) : ∀ (d : List (Int × List Int)) (o : Nat), gA o (ek d a x) = gA o d
 | [], _ => rfl
 | p :: d, o => by
  have ih := vJ a x d (o + 2)
  show AV.tup [.int .i64 (if p.1 = a then (p.1, fI x p.2) else p).1, .mapo o] :: gA (o + 2) (ek d a x) = _
  rw [ih, show (if p.1 = a then (p.1, fI x p.2) else p).1 = p.1 by split <;> rfl]
  rfl
theorem tX {a : Int} {i : Nat} {k : List Int} : ∀ {ns : List Nod} {d : List (Int × List Int)}, ns.length = d.length -> pos a d = some i -> kOf d a = some k -> (nbC ns d)[2 * i + 1]? = some (mBk k)
 | [], [], _, h, _ => by cases h
 | n :: ns, p :: d, hl, h1, h2 => by
  unfold pos at h1
  unfold kOf at h2
  rw [find?_cons] at h2
  by_cases c : p.1 = a
  ·rw [if_pos c] at h1
   injection h1 with h1
   subst h1
   simp [c] at h2
   subst h2
   rfl
  ·rw [if_neg c] at h1
   simp only [c, decide_false] at h2
   obtain ⟨j, hj, rfl⟩ := map_eq_some_iff.1 h1
   exact tX (ns := ns) (d := d) (by simpa using hl) hj h2
theorem uV {a x : Int} : ∀ {d : List (Int × List Int)}, a ∉ d.map (·.1) -> ek d a x = d
 | [], _ => rfl
 | p :: d, h => by
  rw [map_cons, mem_cons, not_or] at h
  have ih := uV (x := x) h.2
  unfold ek at ih ⊢
  rw [map_cons, ih, if_neg (λ e => h.1 e.symm)]
theorem zZ {a x : Int} {i : Nat} {k : List Int} : ∀ {ns : List Nod} {d : List (Int × List Int)}, ns.length = d.length -> (d.map (·.1)).Nodup -> pos a d = some i -> kOf d a = some k -> (nbC ns d).set (2 * i + 1) (mBk (fI x k)) = nbC ns (ek d a x)
 | [], [], _, _, h, _ => by cases h
 | n :: ns, p :: d, hl, hn, h1, h2 => by
  rw [map_cons, List.nodup_cons] at hn
  unfold pos at h1
  unfold kOf at h2
  rw [find?_cons] at h2
  by_cases c : p.1 = a
  ·rw [if_pos c] at h1
   injection h1 with h1
   subst h1
   simp [c] at h2
   subst h2
   subst c
   show nBk n :: mBk (fI x p.2) :: nbC ns d = nbC (n :: ns) ((if p.1 = p.1 then (p.1, fI x p.2) else p) :: ek d p.1 x)
   rw [if_pos rfl, uV hn.1]
   rfl
  ·rw [if_neg c] at h1
   simp only [c, decide_false] at h2
   obtain ⟨j, hj, rfl⟩ := map_eq_some_iff.1 h1
   have ih := zZ (x := x) (ns := ns) (d := d) (by simpa using hl) hn.2 hj h2
   show nBk n :: mBk p.2 :: (nbC ns d).set (2 * j + 1) (mBk (fI x k)) = nbC (n :: ns) ((if p.1 = a then (p.1, fI x p.2) else p) :: ek d a x)
   rw [if_neg c, ih]
   rfl
theorem wu (n : Nod) (p : Int × List Int) : ∀ {ns : List Nod} {d : List (Int × List Int)}, ns.length = d.length -> nbC (ns ++ [n]) (d ++ [p]) = nbC ns d ++ [nBk n, mBk p.2]
 | [], [], _ => rfl
 | m :: ns, q :: d, h => by
  have ih := wu n p (ns := ns) (d := d) (by simpa using h)
  show nBk m :: mBk q.2 :: nbC (ns ++ [n]) (d ++ [p]) = nBk m :: mBk q.2 :: nbC ns d ++ _
  rw [ih]
  rfl
theorem sU {a x : Int} {m : Nat} {d : List (Int × List Int)} (h : ∀ p ∈ d, p.2.length <= m) : ∀ p ∈ ek d a x, p.2.length <= m + 1 := by
 intro p hp
 obtain ⟨q, hq, rfl⟩ := mem_map.1 hp
 have := h q hq
 split
 ·show (fI x q.2).length <= m + 1
  unfold fI
  split
  ·omega
  ·simp; omega
 ·omega
theorem tC : ∀ (es : List Ed) {m : Nat} {d : List (Int × List Int)}, (∀ p ∈ d, p.2.length <= m) -> ∀ p ∈ es.foldl ir d, p.2.length <= m + 2 * es.length
 | [], m, d, h, p, hp => h p hp
 | e :: es, m, d, h, p, hp => by
  have h1 : ∀ p ∈ ir d e, p.2.length <= m + 2 := by
   unfold ir
   split
   ·exact λ p hp => le_trans (h p hp) (by omega)
   ·exact λ p hp => sU (sU h) p hp
  have := tC es h1 p hp
  rw [length_cons]
  omega
theorem tN {a : Int} {k : List Int} {d : List (Int × List Int)} (h : kOf d a = some k) : ∃ p ∈ d, p.2 = k := by
 unfold kOf at h
 obtain ⟨q, hq, rfl⟩ := map_eq_some_iff.1 h
 exact ⟨q, List.mem_of_find?_eq_some hq, rfl⟩
theorem Bv (k : List Int) : (cQ k).length = k.length := by simp [cQ]
section
variable {g : Gra} {ns : List Nod} {d : List (Int × List Int)} {R : List Blk}
theorem nb0 : (nbH g ns d ++ R)[0]? = some ⟨25, 4, [[.slice 3 false (aq g.nodes), .slice 5 false (aq g.edges), .int .i64 g.nn, .int .i64 g.ne]], true, true⟩ := rfl
theorem nb1 : (nbH g ns d ++ R)[1]? = some ⟨1, 0, [gA 3 d], true, false⟩ := rfl
theorem GI : (nbH g ns d)[0]? = some ⟨25, 4, [[.slice 3 false (aq g.nodes), .slice 5 false (aq g.edges), .int .i64 g.nn, .int .i64 g.ne]], true, true⟩ := rfl
theorem GJ : (nbH g ns d)[1]? = some ⟨1, 0, [gA 3 d], true, false⟩ := rfl
theorem Kw {h : 1 < (nbH g ns d ++ R).length} : (nbH g ns d ++ R)[1]'h = ⟨1, 0, [gA 3 d], true, false⟩ := by
 have := nb1 (g := g) (ns := ns) (d := d) (R := R)
 rw [getElem?_eq_getElem h] at this
 exact Option.some.inj this
theorem DG {h : 1 < (nbH g ns d).length} : (nbH g ns d)[1]'h = ⟨1, 0, [gA 3 d], true, false⟩ := rfl
theorem Kv {h : 0 < (nbH g ns d ++ R).length} : (nbH g ns d ++ R)[0]'h = ⟨25, 4, [[.slice 3 false (aq g.nodes), .slice 5 false (aq g.edges), .int .i64 g.nn, .int .i64 g.ne]], true, true⟩ := rfl
theorem zX {h : 0 < (nbH g ns d).length} : (nbH g ns d)[0]'h = ⟨25, 4, [[.slice 3 false (aq g.nodes), .slice 5 false (aq g.edges), .int .i64 g.nn, .int .i64 g.ne]], true, true⟩ := rfl
theorem nbM {a : Int} {i : Nat} {k : List Int} (hl : ns.length = d.length) (h1 : pos a d = some i) (h2 : kOf d a = some k) : (nbH g ns d ++ R)[3 + 2 * i]? = some ⟨1, 0, [cQ k], true, false⟩ := by
 have h := tX hl h1 h2
 have : (nbH g ns d)[3 + 2 * i]? = some (mBk k) := by
  rw [show 3 + 2 * i = (2 * i + 1) + 1 + 1 by omega]
  exact h
 exact gZ this
theorem nbS {a x : Int} {i : Nat} {k : List Int} (hl : ns.length = d.length) (hn : (d.map (·.1)).Nodup) (h1 : pos a d = some i) (h2 : kOf d a = some k) : (nbH g ns d ++ R).set (3 + 2 * i) ⟨1, 0, [cQ (fI x k)], true, false⟩ = nbH g ns (ek d a x) ++ R := by
 have h := zZ (x := x) hl hn h1 h2
 have hlt : 2 * i + 1 < (nbC ns d).length := (List.getElem?_eq_some_iff.1 (tX hl h1 h2)).1
 have : (nbH g ns d).set (3 + 2 * i) (mBk (fI x k)) = nbH g ns (ek d a x) := by
  rw [show 3 + 2 * i = (2 * i + 1) + 1 + 1 by omega]
  show gBk g :: _ :: (nbC ns d).set (2 * i + 1) (mBk (fI x k)) = _
  rw [h]
  simp only [nbH, vJ]
 rw [oc (by rw [nbH]; simp only [length_cons]; omega)]
 exact congrArg (· ++ R) this
theorem R9 {a : Int} {l : Nat} (hl : l = 3 + 2 * d.length) (h1 : a ∉ d.map (·.1)) : (nbH g ns d ++ R).set 1 ⟨1, 0, [ai (.int .i64 a) (.mapo l) (gA 3 d)], true, false⟩ = (gBk g :: ⟨1, 0, [gA 3 (d ++ [(a, [])])], true, false⟩ :: nbC ns d) ++ R := by
 rw [r9 a l h1 hl]
 rfl
theorem pC (m : Nat) : ∀ {d : List (Int × List Int)} {o : Nat}, o + 2 * d.length <= m + 1 -> ∀ e ∈ gA o d, AV.clean m e = true
 | p :: d, o, h, e, he => by
  rw [length_cons] at h
  rcases mem_cons.1 he with rfl | he
  ·simp [AV.clean, AV.clean1]; omega
  ·exact pC m (d := d) (o := o + 2) (by omega) e he
theorem ww (m : Nat) (k : List Int) : ∀ e ∈ cQ k, AV.clean m e = true := by
 intro e he
 obtain ⟨x, _, rfl⟩ := mem_map.1 he
 simp [AV.clean, AV.clean1]
theorem sg (m : Nat) : ∀ {ns : List Nod} {d : List (Int × List Int)}, ∀ b ∈ nbC ns d, b.deep = true ∨ ∀ r ∈ b.rows, ∀ c ∈ r, AV.clean m c = true
 | n :: ns, p :: d, b, hb => by
  rcases mem_cons.1 hb with rfl | hb
  ·exact .inl rfl
  rcases mem_cons.1 hb with rfl | hb
  ·refine .inr λ r hr c hc => ?_
   rw [show (mBk p.2).rows = [cQ p.2] from rfl, mem_singleton] at hr
   subst hr
   exact ww m _ c hc
  ·exact sg m (ns := ns) (d := d) b hb
 | [], _, b, hb => by cases hb
 | _ :: _, [], b, hb => by cases hb
theorem sh (hl : ns.length = d.length) : ∀ b ∈ nbH g ns d, b.deep = true ∨ ∀ r ∈ b.rows, ∀ c ∈ r, AV.clean (nbH g ns d).length c = true := by
 intro b hb
 rcases mem_cons.1 hb with rfl | hb
 ·exact .inl rfl
 rcases mem_cons.1 hb with rfl | hb
 ·refine .inr λ r hr c hc => ?_
  rw [mem_singleton] at hr
  subst hr
  exact pC _ (by rw [il g hl]; omega) c hc
 ·exact sg _ b hb
theorem AK {H : List Blk} {l d : Nat} {ents : List AV} {mu dp : Bool} (h : H[l]? = some ⟨1, 0, [ents], mu, dp⟩) : aX H (d + 1) (.mapo l) = .mapd true (ents.map λ e => match e with | .tup [k, v] => .tup [k, aX H d v] | _ => .undef) := by
 simp only [aX, h]
 rfl
theorem HV (hl : ns.length = d.length) (hn : (d.map (·.1)).Nodup) : aX (nbH g ns d) 6 (.mapo 1) = .mapd true (fg d) := by
 have hv : ∀ p ∈ d, ∀ i, pos p.1 d = some i -> aX (nbH g ns d) 5 (.mapo (3 + 2 * i)) = .mapd true (cQ p.2) := by
  intro p hp i hi
  have hk : kOf d p.1 = some p.2 := by
   obtain ⟨j, k, _, h2, _⟩ := l8 (mem_map.2 ⟨p, hp, rfl⟩)
   rw [h2]
   unfold kOf at h2
   obtain ⟨q, hq, rfl⟩ := map_eq_some_iff.1 h2
   have hm := List.mem_of_find?_eq_some hq
   have he := List.find?_some hq
   have he : q.1 = p.1 := by simpa using he
   have : q = p := by
    obtain ⟨x, hx, rfl⟩ := mem_iff_getElem.1 hm
    obtain ⟨y, hy, rfl⟩ := mem_iff_getElem.1 hp
    have he' : (d.map (·.1))[x]'(by simpa using hx) = (d.map (·.1))[y]'(by simpa using hy) := by simpa using he
    have := (List.getElem_inj hn).1 he'
    subst this; rfl
   rw [this]
  have := nbM (g := g) (R := []) hl hi hk
  rw [append_nil] at this
  refine (AK this).trans (congrArg (AV.mapd true) ?_)
  simp [aX, cQ, Function.comp_def]
 have key : ∀ (e : List (Int × List Int)) (o : Nat), (∀ j (h : j < e.length), aX (nbH g ns d) 5 (.mapo (o + 2 * j)) = .mapd true (cQ e[j].2)) -> (gA o e).map (λ e => match e with | .tup [k, v] => .tup [k, aX (nbH g ns d) 5 v] | _ => .undef) = fg e := by
  intro e
  induction e with
  | nil => intro o _; rfl
  | cons p e ih =>
   intro o h
   have h0 := h 0 (by simp)
   have := ih (o + 2) (λ j hj => by have := h (j + 1) (by simp; omega); rw [show o + 2 * (j + 1) = o + 2 + 2 * j by omega] at this; exact this)
   simp only [gA, map_cons, this, fg]
   simp only [Nat.mul_zero, Nat.add_zero, List.getElem_cons_zero] at h0
   rw [h0]
 have hpos : ∀ (e : List (Int × List Int)) j (h : j < e.length), (e.map (·.1)).Nodup -> pos e[j].1 e = some j := by
  intro e
  induction e with
  | nil => intro j h; cases h
  | cons p e ih =>
   intro j h hn
   rw [map_cons, List.nodup_cons] at hn
   cases j with
   | zero => simp [pos]
   | succ j =>
    have h' : j < e.length := by simpa using h
    have hne : ¬ p.1 = e[j].1 := λ q => hn.1 (by rw [q]; exact mem_map.2 ⟨e[j], List.getElem_mem h', rfl⟩)
    show pos e[j].1 (p :: e) = some (j + 1)
    unfold pos
    rw [if_neg hne, ih j h' hn.2]
    rfl
 have := key d 3 (λ j hj => hv d[j] (List.getElem_mem hj) j (hpos d j hj hn))
 exact (AK GJ).trans (congrArg (AV.mapd true) this)
end
def kX (g : Gra) : Prop := (g.nodes.map (·.id)).Nodup /\ g.nodes.length <= 1000 /\ g.edges.length <= 1000 /\ ∀ e ∈ g.edges, (∃ n ∈ g.nodes, n.id = e.frm) /\ (∃ n ∈ g.nodes, n.id = e.to)
def ji (ns : List Nod) : List (Int × List Int) := (ns.map (·.id)).map λ a => (a, [])
def nrF (g : Gra) : List (Int × List Int) := wv (g.nodes.map (·.id)) (bO g)
def nrI (g : Gra) (i : Nat) : List (Int × List Int) := wv (g.nodes.map (·.id)) ((g.edges.take i).map edF)
def sNb : PSp := aW (λ (g : Gra) (ts : List ByteArray) => ts = [] /\ kX g) (λ g _ => Enc.enc (⟨nrF g⟩ : Near))
noncomputable def CNg : Ctx := mkC prog G0 [(62, .pure lg)]
@[simp] theorem Ue : CNg.P = prog := rfl
@[simp] theorem Ud : CNg.G = G0 := rfl
@[simp] theorem Uc : CNg.S 62 = .pure lg := rfl
theorem yM : aB CNg := aH (vX) func62 (ax _ _)
theorem Dp (ns : List Nod) : (ji ns).map (·.1) = ns.map (·.id) := by simp [ji, Function.comp_def]
theorem v7 (ns : List Nod) : ns.length = (ji ns).length := by simp [ji]
theorem gK {α : Type} [Inhabited α] {l : List α} {i : Nat} (h : i < l.length) : l.take (i + 1) = l.take i ++ [ix l i] := by
 rw [List.take_add_one, getElem?_eq_getElem h, bF h]; rfl
theorem Bn {l : List Nod} {i : Nat} (h : i < l.length) : ji (l.take (i + 1)) = ji (l.take i) ++ [((ix l i).id, [])] := by
 rw [gK h]
 simp [ji]
theorem DH {g : Gra} {i : Nat} (h : i < g.nodes.length) : nbH g (g.nodes.take (i + 1)) (ji (g.nodes.take (i + 1))) = (gBk g :: ⟨1, 0, [gA 3 (ji (g.nodes.take i) ++ [((ix g.nodes i).id, [])])], true, false⟩ :: nbC (g.nodes.take i) (ji (g.nodes.take i))) ++ [nBk (ix g.nodes i), mBk []] := by
 rw [Bn h, gK h, nbH, wu _ _ (v7 _)]
 rfl
theorem yk {g : Gra} (hn : (g.nodes.map (·.id)).Nodup) {i : Nat} (h : i < g.nodes.length) : (ix g.nodes i).id ∉ (ji (g.nodes.take i)).map (·.1) := by
 rw [Dp]
 intro hm
 rw [map_take] at hm
 obtain ⟨j, hj, e⟩ := mem_iff_getElem.1 hm
 have hj' : j < i /\ j < g.nodes.length := by simp at hj; omega
 rw [List.getElem_take] at e
 have e2 : (g.nodes.map (·.id))[i]'(by simpa using h) = (ix g.nodes i).id := by rw [getElem_map, bF h]
 rw [<- e2] at e
 have := (List.getElem_inj hn).1 e
 omega
theorem nbP : PureOK prog G0 25 sNb := by
 refine hZ yM mixed func25 rfl rfl rfl [] (by kernel_rfl) (by decide) (λ g ts ⟨hts, hn, hnl, hel, hed⟩ => ?_)
 subst hts
 simp [ac, ag, ae, am, ap, aa, au, ab, ao, ak, ah, ai, aj]
 refine aA yM mixed [] (λ i : Nat => ⟨[(1, .slice 1 false []), (2, .ptr 0 1 4 0 0), (5, .mapo 1), (12, Enc.enc g.nodes), (13, .int .i64 g.nodes.length), (14, .int .i64 i)], nbH g (g.nodes.take i) (ji (g.nodes.take i))⟩) (λ i => i <= g.nodes.length) (λ i => g.nodes.length - i) (by kernel_rfl) ⟨0, by omega, ar (by simp)⟩ (λ i hi => ?_)
 by_cases hlt : i < g.nodes.length
 ·have i1 : I64 ((i : Int) + 1) := by unfold I64; omega
  have hl := v7 (g.nodes.take i)
  have hS : ∀ R, (nbH g (g.nodes.take i) (ji (g.nodes.take i)) ++ R).set 1 ⟨1, 0, [ai (.int .i64 (ix g.nodes i).id) (.mapo ((nbH g (g.nodes.take i) (ji (g.nodes.take i))).length + 1)) (gA 3 (ji (g.nodes.take i)))], true, false⟩ = (gBk g :: ⟨1, 0, [gA 3 (ji (g.nodes.take i) ++ [((ix g.nodes i).id, [])])], true, false⟩ :: nbC (g.nodes.take i) (ji (g.nodes.take i))) ++ R := λ R => R9 (by rw [il g hl]; omega) (yk hn hlt)
  have hle : (ji (g.nodes.take i)).length <= 1000 := by rw [<- hl, length_take]; omega
  simp [ac, ag, ae, am, ap, aa, au, ab, ao, ak, ah, ai, aj, hlt, aw hlt, i1, nb0, nb1, GI, GJ, Kv, Kw, zX, DG, hS, dz, co, dQ, cr, vK]
  refine ⟨by omega, i + 1, by omega, by omega, ?_⟩
  rw [DH hlt]
  exact ar (by simp)
 ·have hie : i = g.nodes.length := by omega
  subst hie
  rw [take_length]
  simp [ac, ag, ae, am, ap, aa, au, ab, ao, ak, ah, ai, aj, hlt, GI, zX]
  refine aA yM mixed [] (λ j : Nat => ⟨[(1, .slice 1 false []), (2, .ptr 0 1 4 0 0), (5, .mapo 1), (24, Enc.enc g.edges), (25, .int .i64 g.edges.length), (26, .int .i64 j)], nbH g g.nodes (nrI g j)⟩) (λ j => j <= g.edges.length) (λ j => g.edges.length - j) (by kernel_rfl) ⟨0, by omega, ar (by simp)⟩ (λ j hj => ?_)
  have hfst : (nrI g j).map (·.1) = g.nodes.map (·.id) := by
   unfold nrI wv
   rw [wx []]
   simp [Function.comp_def]
  have hl : g.nodes.length = (nrI g j).length := by
   have := congrArg List.length hfst
   simpa using this.symm
  have hnd : ((nrI g j).map (·.1)).Nodup := by rw [hfst]; exact hn
  by_cases hlt : j < g.edges.length
  ·have i1 : I64 ((j : Int) + 1) := by unfold I64; omega
   have hstep : nrI g (j + 1) = ir (nrI g j) (edF (ix g.edges j)) := by
    unfold nrI wv
    rw [gK hlt, map_append, List.foldl_append]
    rfl
   obtain ⟨⟨n1, hn1, e1⟩, ⟨n2, hn2, e2⟩⟩ := hed _ (bJ hlt)
   have hf : (ix g.edges j).frm ∈ (nrI g j).map (·.1) := by rw [hfst, <- e1]; exact mem_map.2 ⟨n1, hn1, rfl⟩
   obtain ⟨p1, k1, hp1, hk1, _⟩ := l8 hf
   have hl2 : g.nodes.length = (ek (nrI g j) (ix g.edges j).frm (ix g.edges j).to).length := by rw [hl]; simp [ek]
   have hfst2 : (ek (nrI g j) (ix g.edges j).frm (ix g.edges j).to).map (·.1) = g.nodes.map (·.id) := by rw [o6, hfst]
   have ht : (ix g.edges j).to ∈ (ek (nrI g j) (ix g.edges j).frm (ix g.edges j).to).map (·.1) := by rw [hfst2, <- e2]; exact mem_map.2 ⟨n2, hn2, rfl⟩
   obtain ⟨p2, k2, hp2, hk2, _⟩ := l8 ht
   have m1 : ∀ R, (nbH g g.nodes (nrI g j) ++ R)[3 + 2 * p1]? = _ := λ R => nbM hl hp1 hk1
   have s1 : ∀ R, (nbH g g.nodes (nrI g j) ++ R).set (3 + 2 * p1) ⟨1, 0, [cQ (fI (ix g.edges j).to k1)], true, false⟩ = _ := λ R => nbS hl hnd hp1 hk1
   have m2 : ∀ R, (nbH g g.nodes (ek (nrI g j) (ix g.edges j).frm (ix g.edges j).to) ++ R)[3 + 2 * p2]? = _ := λ R => nbM hl2 hp2 hk2
   have s2 : ∀ R, (nbH g g.nodes (ek (nrI g j) (ix g.edges j).frm (ix g.edges j).to) ++ R).set (3 + 2 * p2) ⟨1, 0, [cQ (fI (ix g.edges j).frm k2)], true, false⟩ = _ := λ R => nbS hl2 (by rw [hfst2]; exact hn) hp2 hk2
   have hlen : (nbH g g.nodes (ek (nrI g j) (ix g.edges j).frm (ix g.edges j).to)).length = (nbH g g.nodes (nrI g j)).length := by
    rw [il g hl, il g hl2, <- hl2, <- hl]
   have g1 : ∀ R, (nbH g g.nodes (ek (nrI g j) (ix g.edges j).frm (ix g.edges j).to) ++ R)[(nbH g g.nodes (nrI g j)).length]? = R[0]? := λ R => by rw [<- hlen]; exact co
   by_cases hft : (ix g.edges j).frm = (ix g.edges j).to
   ·have hsk : nrI g (j + 1) = nrI g j := by rw [hstep, ir]; exact if_pos hft
    simp [ac, ag, ae, am, ap, aa, au, ab, ao, ak, ah, ai, aj, hlt, aw hlt, i1, nb0, nb1, GI, GJ, Kv, Kw, zX, DG, dz, co, dQ, cr, hft, lg]
    refine ⟨j + 1, by omega, by omega, bH (nbH g g.nodes (nrI g j)).length (by simp) (zero_le _) (by simp [AV.clean, AV.clean1, il g hl]) (by rw [take_left' rfl]; exact sh hl) ?_⟩
    rw [take_left' rfl, hsk]
   ·have hsk : nrI g (j + 1) = ek (ek (nrI g j) (ix g.edges j).frm (ix g.edges j).to) (ix g.edges j).to (ix g.edges j).frm := by rw [hstep, ir]; exact if_neg hft
    simp [ac, ag, ae, am, ap, aa, au, ab, ao, ak, ah, ai, aj, hlt, aw hlt, i1, nb0, nb1, GI, GJ, Kv, Kw, zX, DG, dz, co, dQ, cr, hft, lg, r8, hp1, hp2, sc, m1, s1, m2, s2, g1, Bv]
    have hb : ∀ p ∈ nrI g j, p.2.length <= 0 + 2 * ((g.edges.take j).map edF).length := tC _ (λ p hp => by
     obtain ⟨a, _, rfl⟩ := mem_map.1 hp
     simp)
    have hjl : ((g.edges.take j).map edF).length <= 1000 := by rw [length_map, length_take]; omega
    obtain ⟨q1, hq1, rfl⟩ := tN hk1
    obtain ⟨q2, hq2, rfl⟩ := tN hk2
    have b1 := hb q1 hq1
    have b2 := sU hb q2 hq2
    have hl3 : g.nodes.length = (ek (ek (nrI g j) (ix g.edges j).frm (ix g.edges j).to) (ix g.edges j).to (ix g.edges j).frm).length := by rw [hl2]; simp [ek]
    have hlen3 : (nbH g g.nodes (ek (ek (nrI g j) (ix g.edges j).frm (ix g.edges j).to) (ix g.edges j).to (ix g.edges j).frm)).length = (nbH g g.nodes (nrI g j)).length := by
     rw [il g hl, il g hl3, <- hl3, <- hl]
    refine ⟨by omega, by omega, j + 1, by omega, by omega, ?_⟩
    rw [hsk]
    refine bH (nbH g g.nodes (nrI g j)).length (by simp) (zero_le _) (by simp [AV.clean, AV.clean1, il g hl]) ?_ (by rw [<- hlen3, take_left' rfl])
    rw [<- hlen3, take_left' rfl]
    exact sh hl3
  ·have hje : j = g.edges.length := by omega
   subst hje
   have hfin : nrI g g.edges.length = nrF g := by unfold nrI nrF; rw [take_length]; rfl
   simp [ac, ag, ae, am, ap, aa, au, ab, ao, ak, ah, ai, aj, hlt]
   rw [<- B5, HV hl hnd, hfin]
   rfl
def Hl : PSp := aW (λ (l : List ByteArray) (_ : ByteArray) => l = []) (λ _ _ => .int .i64 (-1))
theorem R3 : PureOK prog G0 172 Hl := by
 refine hZ aR mixed func172 rfl rfl rfl [] (by kernel_rfl) (by decide) (λ l s h => ?_)
 subst h
 simp [ac, ag, ae, am, ap, aa, au, ab, ao, ak, ah, ai, aj]
 refine bG 1 (aJ aR mixed [] (by kernel_rfl) ?_)
 simp [ac, ag, ae, am, ap, aa, au, ab, ao, ak, ah, ai, aj]
noncomputable def CIxz : Ctx := mkC prog G0 [(172, .pure Hl)]
@[simp] theorem P1 : CIxz.P = prog := rfl
@[simp] theorem P0 : CIxz.G = G0 := rfl
@[simp] theorem PZ : CIxz.S 172 = .pure Hl := rfl
theorem Hz : aB CIxz := aH (R3) func172 (ax _ _)
def Eh : PSp := aW (λ (l : List ByteArray) (_ : ByteArray) => l = []) (λ _ _ => .bool false)
theorem Ru : PureOK prog G0 112 Eh := by
 refine hZ Hz mixed func112 rfl rfl rfl [] (by kernel_rfl) (by decide) (λ l s h => ?_)
 subst h
 simp [ac, ag, ae, am, ap, aa, au, ab, ao, ak, ah, ai, aj, Hl]
theorem oJ (b : Bool) (s : ByteArray) : Eh [.slice 1 b [], .str s] = some (True, .bool false) := by
 simp [Eh, aW]
theorem ALz0 {g : Gra} (hg : GdG g) : ∀ r ∈ wkN g, ∃ x y z, r = ⟨[x, y, z]⟩ /\ InQ x /\ InQ y /\ InQ z := by
 intro r hr
 obtain ⟨n, hn, hr⟩ := mem_flatMap.1 hr
 obtain ⟨a, ha, hr⟩ := mem_flatMap.1 hr
 obtain ⟨b, hb, hr⟩ := mem_flatMap.1 hr
 obtain ⟨c, hc, hr⟩ := mem_flatMap.1 hr
 have h1 := hg.r n hn
 obtain ⟨m, hm, e1⟩ := (iE hg ha).2
 have h2 := hg.r m hm
 obtain ⟨o, ho, e2⟩ := (iE hg hb).2
 have h3 := hg.r o ho
 rw [e1] at h2
 rw [e2] at h3
 by_cases h : n.id = c.t
 ·rw [if_pos h, mem_singleton] at hr
  exact ⟨_, _, _, hr, h1, h2, h3⟩
 ·rw [if_neg h] at hr
  cases hr
def lw {k : Int} (r : IR k) : Bool := ra r.l
def hJ (g : Gra) : List (IR 5) := cT cfR ((cT cfR (wkN g)).filter lw)
theorem jc : cl1 = [.int .i64 1, .bool false, .bool false, .slice 3 false [nV], .slice 9 false [cdE], .int .i64 0, .int .i64 0, .int .i64 0, .int .i64 0, .str ⟨#[]⟩, .slice 5 false [], .str ⟨#[]⟩, .bool false, .slice 9 false [], .str ⟨#[]⟩, .slice 10 false [], .slice 10 false [], .int .i64 (-1), .int .i64 (-1), .slice 13 false [], .slice 1 false []] := rfl
def n8 : List AV := [.slice 1 false [], .slice 1 false [[.slice 5 false []]]]
def w8 : PSp := λ args => match args with
 | [a, .agg c, .agg t] => some (bq a = aG (Enc.dec a : Gra) /\ c = cl1 /\ t.map gi = n8 /\ WfG (Enc.dec a : Gra) /\ cB (Enc.dec a : Gra) = 0 /\ GdG (Enc.dec a : Gra) /\ (wkN (Enc.dec a : Gra)).length <= 1000000, .agg [.slice 1 false colE, .slice 1 false (aq (hJ (Enc.dec a : Gra)))])
 | _ => none
def mtH (g : Gra) (rows : List (IR 5)) : List Blk := [gBx g, ⟨69, 21, [cl1], true, true⟩, ⟨38, 2, [n8], true, true⟩, ⟨38, 2, [[.slice 1 true [], .slice 1 true []]], true, true⟩, ⟨9, 1, colE, true, true⟩, ⟨38, 2, [[.own 4 3, .own 7 rows.length]], true, false⟩, ⟨3, 1, [[.int .i64 0], [.int .i64 1], [.int .i64 2]], true, true⟩, ⟨79, 1, aq rows, true, true⟩]
def wV (x y z : Int) : List (List AV) := [[.int .i64 5, .int .i64 x, .int .i64 0, .str ⟨#[]⟩, .slice 5 false []], [.int .i64 5, .int .i64 y, .int .i64 0, .str ⟨#[]⟩, .slice 5 false []], [.int .i64 5, .int .i64 z, .int .i64 0, .str ⟨#[]⟩, .slice 5 false []]]
theorem uG (x y z : Int) : aq (cC 5 [x, y, z]) = wV x y z := by simp [cC, vOf, aq, wV]
theorem JV {g : Gra} {x y z : Int} (hx : InQ x) (hy : InQ y) (hz : InQ z) (b c d : Bool) : En [aG g, .slice 9 b [cdE], .slice 1 c colE, .slice 5 d (wV x y z)] = some (True, .bool (df3 x y z)) := by
 have e : wV x y z = ri x y z := rfl
 rw [e]
 have ho : (∃ (g' : Gra) (x' y' z' : Int), bq (aG g) = aG g' /\ [cdE] = [cdE] /\ colE = colE /\ ri x y z = ri x' y' z' /\ InQ x' /\ InQ y' /\ InQ z') := ⟨g, x, y, z, by simp [aG, bq], rfl, rfl, rfl, hx, hy, hz⟩
 show some (_, AV.bool (df3 x y z)) = _
 rw [eq_true ho]
theorem Ho {g : Gra} (hwf : WfG g) (hck : cB g = 0) (hgd : GdG g) (hln : (wkN g).length <= 1000000) (b c : Bool) : BS [aG g, .slice 3 b [nV], .slice 6 c []] = some (True, .slice 1 false (aq (cT cfR (wkN g)))) := by
 have e : (Enc.dec (aG g) : Gra) = g := Enc.dec_enc g
 simp [BS, e, hwf, hck, hgd, hln, Enc.enc]
 simp [aG]
 rfl
theorem l7 (k : Int) : OrdC (cfR (k := k)) (λ _ => True) := ⟨λ x y _ _ h1 => ordW.1 x.l y.l trivial trivial h1, λ x y z _ _ _ h1 h2 => ordW.2 x.l y.l z.l trivial trivial trivial h1 h2⟩
noncomputable def CMt : Ctx := mkC prog G0 [(110, .pure ju), (111, .gen (bY pS)), (112, .pure Eh), (114, .pure nX), (113, .pure BS), (115, .gen (bY pR)), (116, .pure En), (117, .frz (rl 5))]
@[simp] theorem T8 : CMt.P = prog := rfl
@[simp] theorem T7 : CMt.G = G0 := rfl
@[simp] theorem T6 : CMt.S 110 = .pure ju /\ CMt.S 111 = .gen (bY pS) /\ CMt.S 112 = .pure Eh /\ CMt.S 114 = .pure nX /\ CMt.S 113 = .pure BS /\ CMt.S 115 = .gen (bY pR) /\ CMt.S 116 = .pure En /\ CMt.S 117 = .frz (rl 5) := ⟨rfl, rfl, rfl, rfl, rfl, rfl, rfl, rfl⟩
theorem fp : aB CMt := aH (I1) func110 (aD (aF (clS) func111 rfl (by decide)) (aH (Ru) func112 (aH (JM) func114 (aH (Sx) func113 (aD (aF (CI) func115 rfl (by decide)) (aH (RS) func116 (aD (lU ((OY 5)) func117 rfl (by decide)) (ax _ _))))))))
theorem R5 : PureOK prog G0 59 w8 := by
 refine ew λ avs ob r hp hob => ?_
 unfold w8 at hp
 split at hp
 case h_2 => cases hp
 rename_i a c t
 simp only [Option.some.injEq, Prod.mk.injEq] at hp
 obtain ⟨rfl, rfl⟩ := hp
 obtain ⟨ha, rfl, ht, hwf, hck, hgd, hln⟩ := hob
 obtain ⟨g, hg⟩ : ∃ g, (Enc.dec a : Gra) = g := ⟨_, rfl⟩
 rw [hg] at ha hwf hck hgd hln ⊢
 refine hU (C := CMt) func59 rfl rfl rfl (by show 3 <= _; decide) (ay fp mixed (hd := [15, 26, 29]) _ (by kernel_rfl) ?_)
 simp only [List.map, ha, dc, iP, ht, aG, n8, jc]
 simp [ac, ag, ae, am, ap, aa, au, ab, ao, ak, ah, ai, aj, argsρ, sG, pS, bE]
 refine AW.weak (ev 9 1 3 (by simp) (by decide)) ?_
 refine AW.weak (fu 5 0 1 1 79 rfl rfl rfl (by decide)) ?_
 refine bG 4 ?_
 refine aJ fp mixed [15, 26, 29] (by kernel_rfl) ?_
 simp [ac, ag, ae, am, ap, aa, au, ab, ao, ak, ah, ai, aj, oJ, w1, w2, w3]
 refine aJ fp mixed [15, 26, 29] (by kernel_rfl) ?_
 simp [ac, ag, ae, am, ap, aa, au, ab, ao, ak, ah, ai, aj, oJ, w1, w2, w3]
 refine aJ fp mixed [15, 26, 29] (by kernel_rfl) ?_
 simp [ac, ag, ae, am, ap, aa, au, ab, ao, ak, ah, ai, aj, oJ, w1, w2, w3]
 refine aJ fp mixed [15, 26, 29] (by kernel_rfl) ?_
 simp [ac, ag, ae, am, ap, aa, au, ab, ao, ak, ah, ai, aj, oJ, w1, w2, w3]
 refine bG 2 ?_
 refine aJ fp mixed [15, 26, 29] (by kernel_rfl) ?_
 simp [ac, ag, ae, am, ap, aa, au, ab, ao, ak, ah, ai, aj]
 have hrw := Ho hwf hck hgd hln
 obtain ⟨L, hL⟩ : ∃ L, cT cfR (wkN g) = L := ⟨_, rfl⟩
 simp only [hL, aG] at hrw
 have hLl : L.length <= 1000000 := by
  rw [<- hL, (dh (l7 5) (l := wkN g) (λ _ _ => trivial)).1.length_eq]
  exact hln
 have hLr : ∀ r ∈ L, ∃ x y z, r = ⟨[x, y, z]⟩ /\ InQ x /\ InQ y /\ InQ z := λ r hr => by
  rw [<- hL] at hr
  exact ALz0 hgd r ((dh (l7 5) (l := wkN g) (λ _ _ => trivial)).1.mem_iff.1 hr)
 have hres : hJ g = cT cfR (L.filter lw) := by unfold hJ; rw [hL]
 rw [hres]
 refine aE fp mixed [.read, .pure, .read, .pure, .read, .pure, .read, .read, .pure, .pure] [[],[],[1],[],[3],[],[5,3,4],[4,3,5,6,1,2,0],[0,2,1,6,5,3,4,7],[]] (by kernel_rfl) (by kernel_rfl) (by kernel_rfl) (by kernel_rfl) ?_
 simp [ac, ag, ae, am, ap, aa, au, ab, ao, ak, ah, ai, aj, Ej, hrw]
 refine aA fp mixed [15, 26, 29] (λ i : Nat => ⟨[(3, .ptr 0 1 4 0 0), (4, .ptr 1 1 21 0 0), (5, .ptr 2 1 2 0 0), (6, .ptr 3 1 2 0 0), (8, .ptr 5 1 2 0 0), (9, .own 6 3), (13, .slice 5 false []), (51, .slice 1 false [[.slice 5 false []]]), (52, .int .i64 1), (53, .int .i64 0), (64, .slice 1 false (aq L)), (65, .int .i64 L.length), (66, .int .i64 i)], mtH g ((L.take i).filter lw)⟩) (λ i => i <= L.length) (λ i => L.length - i) (by kernel_rfl) ⟨0, by omega, ar (by simp)⟩ (λ i hi => ?_)
 by_cases hlt : i < L.length
 ·have i1 : I64 ((i : Int) + 1) := by unfold I64; omega
  obtain ⟨x, y, z, hr, hx, hy, hz⟩ := hLr _ (bJ hlt)
  have pd : (Enc.dec (.slice 5 false []) : List Val) = [] := rfl
  have pe : (Enc.enc ([] : List Val) : AV) = .slice 5 false [] := rfl
  have pz : aq ([] : List Val) = [] := rfl
  simp [ac, ag, ae, am, ap, aa, au, ab, ao, ak, ah, ai, aj, hlt, aw hlt, hr, mtH, gBx, jc, n8, pR, bE, pd, pe, pz, uG]
  have hh := JV (g := g) hx hy hz
  simp only [aG] at hh
  have hrX : wV x y z = [[.int .i64 5, .int .i64 x, .int .i64 0, .str ⟨#[]⟩, .slice 5 false []], [.int .i64 5, .int .i64 y, .int .i64 0, .str ⟨#[]⟩, .slice 5 false []], [.int .i64 5, .int .i64 z, .int .i64 0, .str ⟨#[]⟩, .slice 5 false []]] := rfl
  rw [hrX] at hh
  refine bG 4 ?_
  refine aJ fp mixed [15, 26, 29] (by kernel_rfl) ?_
  simp [ac, ag, ae, am, ap, aa, au, ab, ao, ak, ah, ai, aj, w1, w2, w3, hrX]
  refine aJ fp mixed [15, 26, 29] (by kernel_rfl) ?_
  simp [ac, ag, ae, am, ap, aa, au, ab, ao, ak, ah, ai, aj, w1, w2, w3]
  refine aJ fp mixed [15, 26, 29] (by kernel_rfl) ?_
  simp [ac, ag, ae, am, ap, aa, au, ab, ao, ak, ah, ai, aj, w1, w2, w3]
  refine aJ fp mixed [15, 26, 29] (by kernel_rfl) ?_
  have hc3 : colE.length = 3 := rfl
  have hdf : lw (⟨[x, y, z]⟩ : IR 5) = df3 x y z := rfl
  have htk : L.take (i + 1) = L.take i ++ [⟨[x, y, z]⟩] := by rw [gK hlt, hr]
  have hfl : ((L.take i).filter lw).length <= 1000000 := le_trans (length_filter_le _ _) (by rw [length_take]; omega)
  cases hb : df3 x y z
  ·have hst : (L.take (i + 1)).filter lw = (L.take i).filter lw := by rw [htk, List.filter_append]; simp [hdf, hb]
   rw [hb] at hh
   simp [ac, ag, ae, am, ap, aa, au, ab, ao, ak, ah, ai, aj, w1, w2, w3, hh, hc3, i1]
   exact ⟨i + 1, by omega, by omega, cU 8 (by simp) (zero_le _) (by simp [AV.cleanF, AV.clean2, AV.clean1]) (by simp [AV.cleanF, AV.clean2, AV.clean1]) (by simp [mtH, gBx, jc, n8, hst])⟩
  ·have hst : (L.take (i + 1)).filter lw = (L.take i).filter lw ++ [⟨[x, y, z]⟩] := by rw [htk, List.filter_append]; simp [hdf, hb]
   rw [hb] at hh
   simp [ac, ag, ae, am, ap, aa, au, ab, ao, ak, ah, ai, aj, w1, w2, w3, hh, hc3, i1]
   refine AW.weak ((gR 17).trans (cU (ρ' := [(3, .ptr 0 1 4 0 0), (4, .ptr 1 1 21 0 0), (5, .ptr 2 1 2 0 0), (6, .ptr 3 1 2 0 0), (8, .ptr 5 1 2 0 0), (9, .own 6 3), (13, .slice 5 false []), (17, .slice 5 false (wV x y z)), (51, .slice 1 false [[.slice 5 false []]]), (52, .int .i64 1), (53, .int .i64 0), (64, .slice 1 false (aq L)), (65, .int .i64 L.length), (66, .int .i64 i)]) (H' := mtH g ((L.take i).filter lw)) 8 (by simp [aQ, aX, hrX]) (zero_le _) (by simp [AV.cleanF, AV.clean2, AV.clean1]) ?_ (by simp [bo, aQ, df, mtH, gBx, jc, n8]))) ?_
   ·simp [bo, aQ, df, AV.cleanF, AV.clean2, AV.clean1]
   refine fB fp mixed (by kernel_rfl) ?_
   simp [ac, ag, ae, am, ap, aa, au, ab, ao, ak, ah, ai, aj, mtH, gBx, jc, n8, i1]
   refine ⟨by omega, i + 1, by omega, by omega, cU 8 (by simp) (zero_le _) (by simp [AV.cleanF, AV.clean2, AV.clean1]) (by simp [AV.cleanF, AV.clean2, AV.clean1]) ?_⟩
   have hrow : aq [(⟨[x, y, z]⟩ : IR 5)] = [[.slice 5 false (wV x y z)]] := by
    show [[AV.slice 5 false (aq (cC 5 [x, y, z]))]] = _
    rw [uG]
   simp [mtH, gBx, jc, n8, hst, hrX, uG]
   rw [bX, hrow, hrX]
 ·have hie : i = L.length := by omega
  subst hie
  have hfl : (L.filter lw).length <= 1000000 := le_trans (length_filter_le _ _) hLl
  have hgd' : ∀ r ∈ L.filter lw, gdR r := λ r hr => by
   have := (mem_filter.1 hr).1
   rw [<- hL] at this
   exact Ft hgd r ((dh (l7 5) (l := wkN g) (λ _ _ => trivial)).1.mem_iff.1 this)
  rw [take_length]
  simp [ac, ag, ae, am, ap, aa, au, ab, ao, ak, ah, ai, aj, mtH, gBx, jc, n8]
  refine aJ fp mixed [15, 26, 29] (by kernel_rfl) ?_
  have hs : ∀ b, rl 5 [.slice 1 b (aq (L.filter lw))] = some (True, .slice 1 false (aq (cT cfR (L.filter lw)))) := λ b => by
   rw [Ey, eq_true (⟨hfl, hgd'⟩ : _ /\ _)]
  have hc3 : colE.length = 3 := rfl
  simp [ac, ag, ae, am, ap, aa, au, ab, ao, ak, ah, ai, aj, w1, hs, hc3]
instance (k : Int) : DecidableEq (IR k) := λ a b => if h : a.l = b.l then isTrue (by obtain ⟨a⟩ := a; obtain ⟨b⟩ := b; simp only at h; rw [h]) else isFalse (λ e => h (by rw [e]))
theorem CJ {k : Int} {a b : IR k} : cfR a b = 0 ↔ a = b := by
 constructor
 ·intro h
  have := mP h
  obtain ⟨a⟩ := a
  obtain ⟨b⟩ := b
  simp only at this
  rw [this]
 ·rintro rfl
  exact rG _
noncomputable def CPj : Ctx := mkC prog G0 [(122, .pure (iF 2))]
@[simp] theorem Uo : CPj.P = prog := rfl
@[simp] theorem Un : CPj.G = G0 := rfl
@[simp] theorem Um : CPj.S 122 = .pure (iF 2) := rfl
theorem Ln : aB CPj := aD (gN ((Ae 2)) func122 rfl (by decide)) (ax _ _)
def yC : PSp := aW (λ (a b : IR 2) => gdR a /\ gdR b) (λ a b => .bool (decide (a = b)))
theorem RI : PureOK prog G0 121 yC := by
 refine db Ln mixed func121 rfl rfl rfl (by kernel_rfl) (by decide) (λ a b ⟨h1, h2⟩ => ?_)
 simp [ac, ag, ae, am, ap, aa, au, ab, ao, ak, ah, ai, aj, iF, h1, h2]
 exact CJ
def jU (rows : List (List AV)) : List (IR 2) := rows.map Enc.unc
theorem py (xs : List (IR 2)) : jU (aq xs) = xs := ky _
def oT (xs : List (IR 2)) : Prop := xs.length <= 1000000 /\ ∀ r ∈ xs, gdR r
theorem Ir {xs : List (IR 2)} {p : Nat} (h1 : 1 <= p) (h2 : p < xs.length) : dg (xs.take (p + 1)) = dg (xs.take p) ++ (if ix xs p = ix xs (p - 1) then [] else [ix xs p]) := by
 rw [Gd h1 h2, bF h2, bF (show p - 1 < xs.length by omega)]
theorem BV {α : Type} {l : List α} {i : Nat} {x : α} (h : l[i]? = some x) : l.set i x = l := by
 refine List.ext_getElem? λ j => ?_
 by_cases e : i = j
 ·subst e
  obtain ⟨hi, rfl⟩ := List.getElem?_eq_some_iff.1 h
  simp [hi]
 ·simp [e]
def zRw : List AV := [.slice 5 true []]
def rBw (e : TypeId) (rows : List (List AV)) : Blk := ⟨e, 1, rows, true, true⟩
def n9 (b : Blk) (n : Nat) (xs : List (IR 2)) : Prop := b = rBw 79 (aq xs) /\ xs.length = n /\ oT xs
def yB : List AV -> List Blk -> Option (Prop × AV × List Blk) := λ args H => match args with
 | [.own l n, .fn f []] => if f = 121 then (match H[l]? with
  | some b => some (n9 b n (jU b.rows), if (dg (jU b.rows)).length = n then .own l n else .osl l n 1 0 (dg (jU b.rows)).length, if (dg (jU b.rows)).length = n then H else H.set l (rBw 79 (aq (dg (jU b.rows)) ++ List.replicate (n - (dg (jU b.rows)).length) zRw)))
  | none => none) else none
 | _ => none
theorem Ec {args : List AV} {H : List Blk} {ob : Prop} {r : AV} {H' : List Blk} (h : yB args H = some (ob, r, H')) (hob : ob) : ∃ l n xs, args = [.own l n, .fn 121 []] /\ H[l]? = some (rBw 79 (aq xs)) /\ xs.length = n /\ oT xs /\ (r = if (dg xs).length = n then .own l n else .osl l n 1 0 (dg xs).length) /\ H' = if (dg xs).length = n then H else H.set l (rBw 79 (aq (dg xs) ++ List.replicate (n - (dg xs).length) zRw)) := by
 unfold yB at h
 split at h
 ·rename_i l n f
  split at h
  ·rename_i hf
   subst hf
   split at h
   ·rename_i b hb
    simp only [Option.some.injEq, Prod.mk.injEq] at h
    obtain ⟨h1, h2, h3⟩ := h
    rw [<- h1] at hob
    obtain ⟨p1, p2, p3⟩ := hob
    refine ⟨l, n, jU b.rows, rfl, ?_, p2, p3, h2.symm, h3.symm⟩
    rw [hb, <- p1]
   ·cases h
  ·cases h
 ·cases h
noncomputable def CEq : Ctx := mkC prog G0 [(121, .pure yC)]
@[simp] theorem Tz : CEq.P = prog := rfl
@[simp] theorem Ty : CEq.G = G0 := rfl
@[simp] theorem Tx : CEq.S 121 = .pure yC := rfl
theorem yJ : aB CEq := aH (RI) func121 (ax _ _)
theorem NF : bg prog G0 120 yB := by
 refine pI (C := CEq) yJ mixed func120 rfl (by kernel_rfl) (λ avs H ob r H' h hob => ?_)
 obtain ⟨l, n, xs, rfl, hb, hxl, hS, hr, hH⟩ := Ec h hob
 clear h hob ob
 refine ⟨(by show 2 <= _; decide), ?_⟩
 have hl : l < H.length := (List.getElem?_eq_some_iff.1 hb).1
 have hn : n <= 1000000 := by rw [<- hxl]; exact hS.1
 have hsame := BV hb
 by_cases h2 : n < 2
 ·have hd : (dg xs).length = n := by
   cases xs with
   | nil => exact hxl
   | cons x r => cases r with
    | nil => exact hxl
    | cons y q => simp at hxl; omega
  rw [if_pos hd] at hr hH
  subst hr hH
  have h2' : (n : Int) < 2 := by omega
  simp [ac, ag, ae, am, ap, aa, au, ab, ao, ak, ah, ai, aj, argsρ, h2, h2']
  exact ⟨True, trivial⟩
 have h2' : ¬ (n : Int) < 2 := by omega
 have hb' : H[l]? = some ⟨79, 1, aq xs, true, true⟩ := hb
 simp [ac, ag, ae, am, ap, aa, au, ab, ao, ak, ah, ai, aj, argsρ, h2, h2']
 refine aT yJ mixed (λ k : Nat => ⟨[(0, .own l n), (1, .fn 121 []), (5, .int .i64 k)], H⟩) (λ k => 1 <= k /\ k <= n /\ dg (xs.take k) = xs.take k) (λ k => n - k) (by kernel_rfl) ⟨1, ⟨le_refl _, by omega, by cases xs with | nil => rfl | cons x r => rfl⟩, ar (by simp)⟩ (λ k ⟨k1, k2, k3⟩ => ?_)
 by_cases hk : k < n
 ·have hkx : k < xs.length := by omega
  have hpx : k - 1 < xs.length := by omega
  have i1 : I64 ((k : Int) + 1) := by unfold I64; omega
  have i2 : I64 ((k : Int) - 1) := by unfold I64; omega
  have j1 : ((k : Int) - 1).toNat = k - 1 := by omega
  have j2 : (0 : Int) <= (k : Int) - 1 := by omega
  have j3 : (k : Int) - 1 < n := by omega
  have j4 : k - 1 < n := by omega
  have sa := hS.2 _ (bJ hkx)
  have sb := hS.2 _ (bJ hpx)
  have dt := Ir k1 hkx
  rcases em2 (ix xs k = ix xs (k - 1)) with e | e
  ·rw [if_pos (of_eq_true e), append_nil, k3] at dt
   simp [ac, ag, ae, am, ap, aa, au, ab, ao, ak, ah, ai, aj, yC, hb', hxl, hk, hkx, hpx, aw hkx, aw hpx, i1, i2, j1, j2, j3, j4, sa, sb, e]
   refine ⟨by omega, by omega, ?_⟩
   refine aT yJ mixed (λ x : Nat × Nat × List (IR 2) => ⟨[(0, .own l n), (1, .fn 121 []), (5, .int .i64 x.2.1), (6, .osl l n 1 k (n - k)), (7, .int .i64 x.1)], H.set l (rBw 79 (aq x.2.2))⟩) (λ x => 1 <= x.1 /\ k + x.1 <= n /\ x.2.1 + 1 <= k + x.1 /\ x.2.2.length = n /\ x.2.2.take x.2.1 = dg (xs.take (k + x.1)) /\ (dg (xs.take (k + x.1))).length = x.2.1 /\ ∀ i, k + x.1 - 1 <= i -> i < n -> ix x.2.2 i = ix xs i) (λ x => n - k - x.1) (by kernel_rfl) ⟨(1, k, xs), ⟨le_refl _, by omega, le_refl _, hxl, by rw [dt], by rw [dt, length_take]; show min k xs.length = k; omega, λ i _ _ => rfl⟩, di (by simp) hsame.symm⟩ (λ ⟨q, w, R⟩ ⟨q1, q2, q3, q4, q5, q6, q7⟩ => ?_)
   simp only at q1 q2 q3 q4 q5 q6 q7 ⊢
   by_cases hq : k + q < n
   ·have hqn : q < n - k := by omega
    have hqx : k + q < R.length := by omega
    have hqp : k + (q - 1) < R.length := by omega
    have hqxs : k + q < xs.length := by omega
    have a1 : I64 ((q : Int) + 1) := by unfold I64; omega
    have a2 : I64 ((q : Int) - 1) := by unfold I64; omega
    have a3 : I64 ((w : Int) + 1) := by unfold I64; omega
    have b1 : ((q : Int) - 1).toNat = q - 1 := by omega
    have b2 : (0 : Int) <= (q : Int) - 1 := by omega
    have b3 : (q : Int) - 1 < ((n - k : Nat) : Int) := by omega
    have b4 : (q : Int) < ((n - k : Nat) : Int) := by omega
    have b5 : w < n := by omega
    have hwR : w < R.length := by omega
    have r1 : ix R (k + q) = ix xs (k + q) := q7 _ (by omega) hq
    have r2 : ix R (k + (q - 1)) = ix xs (k + q - 1) := by rw [q7 _ (by omega) (by omega)]; congr 1; omega
    have sa2 := hS.2 _ (bJ hqxs)
    have sb2 := hS.2 _ (bJ (show k + q - 1 < xs.length by omega))
    have dt2 := Ir (xs := xs) (p := k + q) (by omega) hqxs
    rcases em2 (ix xs (k + q) = ix xs (k + q - 1)) with e2 | e2
    ·rw [if_pos (of_eq_true e2), append_nil] at dt2
     simp [ac, ag, ae, am, ap, aa, au, ab, ao, ak, ah, ai, aj, rBw, yC, hl, hqn, hqx, hqp, aw hqx, aw hqp, a1, a2, b1, b2, b3, b4, r1, r2, sa2, sb2, e2, q4]
     refine ⟨hq, by omega, by omega, q + 1, w, R, ⟨by omega, by omega, by omega, q4, ?_, ?_, λ i h1 h2 => q7 i (by omega) h2⟩, by omega, di (by simp) (by first | rfl | simp [rBw])⟩
     ·rw [q5, <- dt2]; rfl
     ·rw [show k + (q + 1) = k + q + 1 by omega, dt2]; exact q6
    ·rw [if_neg (of_eq_false e2)] at dt2
     simp [ac, ag, ae, am, ap, aa, au, ab, ao, ak, ah, ai, aj, rBw, yC, hl, hqn, hqx, hqp, aw hqx, aw hqp, hwR, aw hwR, a1, a2, a3, b1, b2, b3, b4, b5, r1, r2, sa2, sb2, e2, q4]
     refine ⟨hq, by omega, by omega, hq, q + 1, w + 1, R.set w (ix xs (k + q)), ⟨by omega, by omega, by omega, by rw [List.length_set]; exact q4, ?_, ?_, λ i h1 h2 => ?_⟩, by omega, di (by simp) (by first | rfl | (rw [<- jW]; rfl))⟩
     ·rw [show k + (q + 1) = k + q + 1 by omega, dt2, <- q5]
      rw [List.take_succ_eq_append_getElem (by rw [List.length_set]; omega), List.take_set_of_le (le_refl w), List.getElem_set_self]
     ·rw [show k + (q + 1) = k + q + 1 by omega, dt2, List.length_append, q6]; rfl
     ·rw [<- q7 i (by omega) h2]
      unfold ix
      simp only [List.getD_eq_getElem?_getD]
      rw [List.getElem?_set_ne (by omega)]
   ·have hqe : k + q = n := by omega
    have hdg : dg (xs.take (k + q)) = dg xs := by rw [List.take_of_length_le (by omega)]
    rw [hdg] at q5 q6
    rw [if_neg (by omega), q6] at hr
    rw [if_neg (by omega), q6] at hH
    subst hr hH
    have b4 : ¬ (q : Int) < ((n - k : Nat) : Int) := by omega
    have b5 : w <= n := by omega
    have hnq : q = n - k := by omega
    simp [ac, ag, ae, am, ap, aa, au, ab, ao, ak, ah, ai, aj, rBw, hl, b4, q4, b5, q5]
    refine ⟨⟨True, trivial⟩, ?_⟩
    rw [List.drop_of_length_le (by omega)]
    simp [zRw]
  ·rw [if_neg (of_eq_false e), k3] at dt
   simp [ac, ag, ae, am, ap, aa, au, ab, ao, ak, ah, ai, aj, yC, hb', hxl, hk, hkx, hpx, aw hkx, aw hpx, i1, i2, j1, j2, j3, j4, sa, sb, e]
   refine ⟨by omega, k + 1, ⟨by omega, by omega, ?_⟩, by omega, ar (by simp)⟩
   rw [dt, List.take_succ_eq_append_getElem hkx, bF hkx]
 ·have hkn : k = n := by omega
  subst hkn
  have hd : (dg xs).length = k := by rw [List.take_of_length_le (by omega)] at k3; rw [k3, hxl]
  rw [if_pos hd] at hr hH
  subst hr hH
  simp [ac, ag, ae, am, ap, aa, au, ab, ao, ak, ah, ai, aj]
  exact ⟨True, trivial⟩
theorem tj : cl2 = aI := rfl
def toS (r : IR 2) : IS := ⟨r.l⟩
def toR (x : IS) : IR 2 := ⟨x.l⟩
def xg (L : List (IR 2)) : List (IR 2) := (cT cfS (L.map toS)).map toR
def xV : List ByteArray := [sA, sB, sC]
theorem CQ : aq xV = colE := rfl
theorem Jy (H : List Blk) : bY pS [.slice 1 false colE] H = some (True, .own H.length 3, H ++ [⟨9, 1, colE, true, true⟩]) := by
 rw [<- CQ]
 have e : (Enc.dec (.slice 1 false (aq xV)) : List ByteArray) = xV := Enc.dec_enc xV
 have e2 : (.slice 1 false (aq xV) : AV) = Enc.enc xV := rfl
 simp [pS, bE, e, xV]
def EA : PSp := λ args => match args with
 | [a, .agg c, .agg [.slice 1 _ cols, .slice 1 _ rows]] => some ((∃ g : Gra, bq a = aG g) /\ c = cl2 /\ cols = colE /\ rows = aq (jU rows) /\ oT (jU rows), .agg [.slice 1 false colE, .slice 1 false (aq (xg (jU rows)))])
 | _ => none
noncomputable def CSo : Ctx := mkC prog G0 [(188, .gen (bY GH)), (111, .gen (bY pS)), (189, .gen (bj IS 272 190 [.iptr aI] gdS ip (tS0 cfS)))]
@[simp] theorem U7 : CSo.P = prog := rfl
@[simp] theorem U6 : CSo.G = G0 := rfl
@[simp] theorem U5 : CSo.S 188 = .gen (bY GH) /\ CSo.S 111 = .gen (bY pS) /\ CSo.S 189 = .gen (bj IS 272 190 [.iptr aI] gdS ip (tS0 cfS)) := ⟨rfl, rfl, rfl⟩
theorem nh : aB CSo := aD (aF (clW) func188 rfl (by decide)) (aD (aF (clS) func111 rfl (by decide)) (aD (aF (SD) func189 rfl (by decide)) (ax _ _)))
def soH (g : Gra) (L : List (IR 2)) (X : List IS) : List Blk := [gBx g, ⟨69, 21, [cl2], true, true⟩, ⟨38, 2, [[.slice 1 false colE, .slice 1 false (aq L)]], true, true⟩, ⟨38, 2, [[.slice 1 true [], .slice 1 true []]], true, true⟩, ⟨272, 2, aq X, true, true⟩]
theorem Sz : PureOK prog G0 123 EA := by
 refine ew λ avs ob r hp hob => ?_
 unfold EA at hp
 split at hp
 case h_2 => cases hp
 rename_i a c b1 cols b2 rows
 simp only [Option.some.injEq, Prod.mk.injEq] at hp
 obtain ⟨rfl, rfl⟩ := hp
 obtain ⟨⟨g, ha⟩, rfl, rfl, hrw, hgd⟩ := hob
 obtain ⟨L, hL⟩ : ∃ L, jU rows = L := ⟨_, rfl⟩
 rw [hL] at hrw hgd ⊢
 subst hrw
 refine hU (C := CSo) func123 rfl rfl rfl (by show 3 <= _; decide) (ay nh mixed (hd := [9, 11, 13]) _ (by kernel_rfl) ?_)
 have hLl := hgd.1
 obtain ⟨XS, hXS⟩ : ∃ XS, L.map toS = XS := ⟨_, rfl⟩
 have hXl : XS.length = L.length := by rw [<- hXS, length_map]
 have hXi : ∀ i, i < L.length -> XS.take (i + 1) = XS.take i ++ [toS (ix L i)] := λ i h => by
  rw [<- hXS, List.take_add_one, getElem?_eq_getElem (by simpa using h), getElem_map, bF h]; rfl
 have c16 : cl2[16]?.getD AV.undef = .slice 10 false [] := rfl
 have d16 : ∀ h : 16 < cl2.length, cl2[16]'h = .slice 10 false [] := λ h => rfl
 have cln : cl2.length = 21 := rfl
 simp only [List.map, ha, dc, iP, aG, tj, aI, zV5, Da, Db]
 simp [ac, ag, ae, am, ap, aa, au, ab, ao, ak, ah, ai, aj, argsρ]
 refine aA nh mixed [9, 11, 13] (λ i : Nat => ⟨[(3, .ptr 0 1 4 0 0), (4, .ptr 1 1 21 0 0), (5, .ptr 2 1 2 0 0), (6, .ptr 3 1 2 0 0), (7, .own 4 i), (17, .slice 1 false (aq L)), (18, .int .i64 L.length), (19, .int .i64 i)], soH g L (XS.take i)⟩) (λ i => i <= L.length) (λ i => L.length - i) (by kernel_rfl) ⟨0, by omega, (ev 7 2 272 (by simp) (by decide)).trans (ar (by simp [soH, gBx, tj, aI, zV5, Da, Db]))⟩ (λ i hi => ?_)
 by_cases hlt : i < L.length
 ·have i1 : I64 ((i : Int) + 1) := by unfold I64; omega
  have hg := hgd.2 _ (bJ hlt)
  have hgl := hg.1
  have hvl := kz 2 (ix L i).l
  have hv : (cC 2 (ix L i).l).length <= 1000000 := by omega
  simp [ac, ag, ae, am, ap, aa, au, ab, ao, ak, ah, ai, aj, hlt, aw hlt, soH, gBx, GH, bE, hv, c16, d16, cln]
  refine bG 1 (aJ nh mixed [9, 11, 13] (by kernel_rfl) ?_)
  simp [ac, ag, ae, am, ap, aa, au, ab, ao, ak, ah, ai, aj]
  refine AW.weak ((gR 10).trans (cU (ρ' := [(3, .ptr 0 1 4 0 0), (4, .ptr 1 1 21 0 0), (5, .ptr 2 1 2 0 0), (6, .ptr 3 1 2 0 0), (7, .own 4 i), (10, .iptr [.slice 5 false (aq (cC 2 (ix L i).l)), .slice 5 true []]), (17, .slice 1 false (aq L)), (18, .int .i64 L.length), (19, .int .i64 i)]) (H' := soH g L (XS.take i)) 5 (by simp [aQ, aX]) (zero_le _) (by simp [AV.cleanF, AV.clean2, AV.clean1]) ?_ (by simp [bo, aQ, df, soH, gBx]))) ?_
  ·simp [bo, aQ, df, AV.cleanF, AV.clean2, AV.clean1]
  refine fB nh mixed (by kernel_rfl) ?_
  have hmi : min i XS.length = i := by omega
  have hrow : aq (XS.take (i + 1)) = aq (XS.take i) ++ [[.slice 5 false (aq (cC 2 (ix L i).l)), .slice 5 false []]] := by rw [hXi i hlt, bX]; rfl
  simp [ac, ag, ae, am, ap, aa, au, ab, ao, ak, ah, ai, aj, soH, gBx, i1, hmi]
  refine ⟨by omega, i + 1, by omega, by omega, ?_⟩
  rw [hrow]
  exact ar (by simp)
 ·have hie : i = L.length := by omega
  subst hie
  rw [show XS.take L.length = XS by rw [<- hXl]; exact take_length]
  simp [ac, ag, ae, am, ap, aa, au, ab, ao, ak, ah, ai, aj, soH, gBx]
  refine AW.weak ((gR 4).trans (cU (ρ' := [(4, .iptr cl2), (5, .ptr 2 1 2 0 0), (6, .ptr 3 1 2 0 0), (7, .own 4 L.length)]) (H' := [gBx g, ⟨69, 21, [cl2], false, true⟩, ⟨38, 2, [[.slice 1 false colE, .slice 1 false (aq L)]], true, true⟩, ⟨38, 2, [[.slice 1 true [], .slice 1 true []]], true, true⟩, ⟨272, 2, aq XS, true, true⟩]) 5 (by simp [aQ, aX]) (zero_le _) (by simp [AV.cleanF, AV.clean2, AV.clean1]) ?_ (by simp [bo, aQ, df, gBx]))) ?_
  ·simp [bo, aQ, df, AV.cleanF, AV.clean2, AV.clean1]
  refine fB nh mixed (by kernel_rfl) ?_
  have hcall : bj IS 272 190 [.iptr aI] gdS ip (tS0 cfS) [.own 4 L.length, .fn 190 [.iptr cl2]] [gBx g, ⟨69, 21, [cl2], false, true⟩, ⟨38, 2, [[.slice 1 false colE, .slice 1 false (aq L)]], true, true⟩, ⟨38, 2, [[.slice 1 true [], .slice 1 true []]], true, true⟩, ⟨272, 2, aq XS, true, true⟩] = some (True, .tup [], [gBx g, ⟨69, 21, [cl2], false, true⟩, ⟨38, 2, [[.slice 1 false colE, .slice 1 false (aq L)]], true, true⟩, ⟨38, 2, [[.slice 1 true [], .slice 1 true []]], true, true⟩, ⟨272, 2, aq (cT cfS XS), true, true⟩]) := by
   have hb := og (e := 272) XS
   rw [<- hXl, <- tj]
   refine (tD (l := 4) (f := λ j => XS.getD j default) (by rw [hb]; rfl) (jR XS)).trans ?_
   have ho : (XS.length <= 1000000 /\ (∀ j, j < XS.length -> gdS (XS.getD j default)) /\ ip [] XS.length) = True := eq_true ⟨by omega, λ j hj => by
    have h1 : j < L.length := by omega
    have h2 := hgd.2 _ (bJ h1)
    have h3 : XS.getD j default = toS (ix L j) := by
     rw [List.getD_eq_getElem?_getD, getElem?_eq_getElem hj]
     show XS[j] = _
     simp only [<- hXS, getElem_map, bF h1]
    rw [h3]
    exact h2, trivial⟩
   rw [ho]
   rfl
  obtain ⟨SL, hSL⟩ : ∃ SL, cT cfS XS = SL := ⟨_, rfl⟩
  have hSl : SL.length = L.length := by rw [<- hSL]; unfold cT; rw [aZ, hXl]
  have hres : xg L = SL.map toR := by unfold xg; rw [hXS, hSL]
  rw [hres]
  rw [hSL] at hcall
  simp only [gBx] at hcall ⊢
  have hc3 : colE.length = 3 := rfl
  simp [ac, ag, ae, am, ap, aa, au, ab, ao, ak, ah, ai, aj, hcall, Jy]
  refine AW.weak (fu 6 0 1 1 79 rfl rfl rfl (by decide)) ?_
  refine aA nh mixed [9, 11, 13] (λ j : Nat => ⟨[(6, .ptr 3 1 2 0 0), (13, .ptr 6 1 2 0 0), (59, .own 4 L.length), (60, .int .i64 L.length), (61, .int .i64 j)], [gBx g, ⟨69, 21, [cl2], false, true⟩, ⟨38, 2, [[.slice 1 false colE, .slice 1 false (aq L)]], true, true⟩, ⟨38, 2, [[.slice 1 true [], .slice 1 true []]], true, true⟩, ⟨272, 2, aq SL, true, true⟩, ⟨9, 1, colE, true, true⟩, ⟨38, 2, [[.own 5 3, .own 7 j]], true, false⟩, ⟨79, 1, aq ((SL.map toR).take j), true, true⟩]⟩) (λ j => j <= L.length) (λ j => L.length - j) (by kernel_rfl) ⟨0, by omega, ar (by simp [gBx])⟩ (λ j hj => ?_)
  have hRl : (SL.map toR).length = L.length := by rw [length_map, hSl]
  obtain ⟨R, hR⟩ : ∃ R, SL.map toR = R := ⟨_, rfl⟩
  rw [hR] at hRl ⊢
  by_cases hlt2 : j < L.length
  ·have i1 : I64 ((j : Int) + 1) := by unfold I64; omega
   have hjs : j < SL.length := by omega
   have hmi : min j R.length = j := by omega
   have hrow : aq (R.take (j + 1)) = aq (R.take j) ++ [[.slice 5 false (aq (cC 2 (ix SL j).l))]] := by
    rw [gK (by omega), bX]
    have : ix R j = toR (ix SL j) := by rw [bF (by omega), bF hjs]; simp only [<- hR, getElem_map]
    rw [this]; rfl
   simp [ac, ag, ae, am, ap, aa, au, ab, ao, ak, ah, ai, aj, hlt2, aw hjs, hSl, gBx, i1, hmi]
   refine ⟨by omega, j + 1, by omega, by omega, ?_⟩
   rw [hrow]
   exact cU 8 (by simp) (zero_le _) (by simp [AV.cleanF, AV.clean2, AV.clean1]) (by simp [AV.cleanF, AV.clean2, AV.clean1]) (by simp)
  ·have hje : j = L.length := by omega
   subst hje
   rw [show R.take L.length = R by rw [<- hRl]; exact take_length]
   simp [ac, ag, ae, am, ap, aa, au, ab, ao, ak, ah, ai, aj, gBx, hRl, hc3]
def yF : List AV -> List Blk -> Option (Prop × AV × List Blk) := λ args H => match args with
 | [.own l n] => (match H[l]? with
  | some b => some (n9 b n (jU b.rows), .own H.length n, H ++ [rBw 79 (aq (cT cfR (jU b.rows)))])
  | none => none)
 | _ => none
theorem EB {args : List AV} {H : List Blk} {ob : Prop} {r : AV} {H' : List Blk} (h : yF args H = some (ob, r, H')) (hob : ob) : ∃ l xs, args = [.own l xs.length] /\ H[l]? = some (rBw 79 (aq xs)) /\ oT xs /\ r = .own H.length xs.length /\ H' = H ++ [rBw 79 (aq (cT cfR xs))] := by
 unfold yF at h
 split at h
 ·rename_i l n
  split at h
  ·rename_i b hb
   simp only [Option.some.injEq, Prod.mk.injEq] at h
   obtain ⟨h1, h2, h3⟩ := h
   rw [<- h1] at hob
   obtain ⟨p1, p2, p3⟩ := hob
   refine ⟨l, jU b.rows, by rw [p2], ?_, p3, by rw [p2]; exact h2.symm, h3.symm⟩
   rw [hb, <- p1]
  ·cases h
 ·cases h
theorem SA : bg prog G0 117 yF := by
 refine pI (C := CYq 2) (uu 2) (tR 2) func117 rfl (by kernel_rfl) (λ avs H ob r H' h hob => ?_)
 obtain ⟨l, xs, rfl, hb, hS, rfl, rfl⟩ := EB h hob
 clear h hob ob
 refine ⟨(by show 1 <= _; decide), ?_⟩
 have hl : l < H.length := (List.getElem?_eq_some_iff.1 hb).1
 have hn : xs.length <= 1000000 := hS.1
 have hN : xs.length * 24 <= 140737488355328 := by omega
 have hb' : H[l]? = some ⟨79, 1, aq xs, true, true⟩ := hb
 have ha : ∀ x, (H ++ [x])[l]? = some ⟨79, 1, aq xs, true, true⟩ := λ x => by rw [List.getElem?_append_left hl]; exact hb
 simp [ac, ag, ae, am, ap, aa, au, ab, ao, ak, ah, ai, aj, argsρ, hN, hb']
 refine ⟨by omega, ?_⟩
 refine aT (C := CYq 2) (uu 2) (tR 2) (λ i : Nat => ⟨[(3, .own H.length xs.length), (9, .own l xs.length), (10, .int .i64 xs.length), (11, .int .i64 i)], H ++ [⟨79, 1, aq (xs.take i) ++ List.replicate (xs.length - i) [.slice 5 true []], true, true⟩]⟩) (λ i => i <= xs.length) (λ i => xs.length - i) (by kernel_rfl) ⟨0, by omega, ar (by simp)⟩ (λ i hi => ?_)
 have hlen : (aq (xs.take i) ++ List.replicate (xs.length - i) [AV.slice 5 true []]).length = xs.length := by simp; omega
 by_cases hlt : i < xs.length
 ·have i1 : I64 ((i : Int) + 1) := by unfold I64; omega
  have hv := rP (k := 2) (hS.2 _ (bJ hlt)).1
  have hs := Av (A := aq (xs.take i)) (z := [AV.slice 5 true []]) (x := [.slice 5 false (aq (cC 2 (ix xs i).l))]) (n := xs.length) (i := i) (by simp; omega) hlt
  have hr : aq (xs.take i) ++ [[.slice 5 false (aq (cC 2 (ix xs i).l))]] = aq (xs.take (i + 1)) := by
   rw [gK hlt, bX]; rfl
  have hro : dq (aq (xs.take i) ++ List.replicate (xs.length - i) [AV.slice 5 true []]) i = [AV.slice 5 true []] := sw (by simp; omega) hlt
  rw [hr] at hs
  simp [ac, ag, ae, am, ap, aa, au, ab, ao, ak, ah, ai, aj, hlt, aw hlt, wZ, hv, i1, hs, hlen, hro, ha]
  exact ⟨i + 1, by omega, by omega, ar (by simp)⟩
 ·have e : i = xs.length := by omega
  subst e
  have hcall : bj (IR 2) 79 122 [] gdR ip (tS0 cfR) [.own H.length xs.length, .fn 122 []] (H ++ [⟨79, 1, aq xs, true, true⟩]) = some (xs.length <= 1000000 /\ (∀ j, j < xs.length -> gdR (xs.getD j default)) /\ ip [] xs.length, .tup [], H ++ [⟨79, 1, aq (cT cfR xs), true, true⟩]) := by
   have hb := og (e := 79) xs
   refine (tD (l := H.length) (f := λ j => xs.getD j default) (by rw [hb]; simp) (jR xs)).trans ?_
   rw [Cz]
   rfl
  have hg : ∀ j, j < xs.length -> gdR (xs.getD j default) := λ j hj => by
   have := hS.2 _ (bJ hj)
   exact this
  simp [ac, ag, ae, am, ap, aa, au, ab, ao, ak, ah, ai, aj, hcall, ip]
  exact ⟨⟨hn, by simpa using hg⟩, ⟨True, trivial⟩, rfl⟩
def to2 (r : IR 5) : IR 2 := ⟨r.l⟩
def vz (rows : List (List AV)) : List (IR 5) := rows.map Enc.unc
theorem C0 (xs : List (IR 5)) : vz (aq xs) = xs := ky _
def lC (L : List (IR 5)) : List (IR 2) := xg (dg (cT cfR (L.map to2)))
def FL (L : List (IR 5)) : Prop := L.length <= 1000000 /\ ∀ r ∈ L, ∃ x y z, r = ⟨[x, y, z]⟩ /\ InQ x /\ InQ y /\ InQ z
def xc : PSp := λ args => match args with
 | [a, .agg c, .agg [.slice 1 _ cols, .slice 1 _ rows]] => some ((∃ g : Gra, bq a = aG g) /\ c = cl2 /\ cols = colE /\ rows = aq (vz rows) /\ FL (vz rows), .agg [.slice 1 false colE, .slice 1 false (aq (lC (vz rows)))])
 | _ => none
def D4 (x y z : Int) : List (List AV) := [[.int .i64 2, .int .i64 x, .int .i64 0, .str ⟨#[]⟩, .slice 5 false []], [.int .i64 2, .int .i64 y, .int .i64 0, .str ⟨#[]⟩, .slice 5 false []], [.int .i64 2, .int .i64 z, .int .i64 0, .str ⟨#[]⟩, .slice 5 false []]]
theorem LU (x y z : Int) : aq (cC 2 [x, y, z]) = D4 x y z := by simp [cC, vOf, aq, D4]
theorem C9 {g : Gra} {x y z : Int} (hx : InQ x) (hy : InQ y) (hz : InQ z) (b : Bool) (e : List AV) (he : e = idE sA ∨ e = idE sB ∨ e = idE sC) : Ek [aG g, .agg e, .slice 6 b (fv x y z)] = some (True, .agg (vC 2 (exN (fv x y z) (nmE e)))) := by
 show some (_, _) = _
 rw [eq_true (⟨pD (g := g) hx hy hz, he⟩ : _ /\ _)]
theorem Hq {l n : Nat} {H : List Blk} {xs : List (IR 2)} (hb : H[l]? = some ⟨79, 1, aq xs, true, true⟩) (hn : xs.length = n) (hg : oT xs) : yF [.own l n] H = some (True, .own H.length n, H ++ [⟨79, 1, aq (cT cfR xs), true, true⟩]) := by
 have hd := py xs
 simp only [yF, hb, hd]
 have hk : n9 ⟨79, 1, aq xs, true, true⟩ n xs := ⟨rfl, hn, hg⟩
 rw [eq_true hk]
 rfl
theorem Hd {l n : Nat} {H : List Blk} {xs : List (IR 2)} (hb : H[l]? = some ⟨79, 1, aq xs, true, true⟩) (hn : xs.length = n) (hg : oT xs) : yB [.own l n, .fn 121 []] H = some (True, if (dg xs).length = n then .own l n else .osl l n 1 0 (dg xs).length, if (dg xs).length = n then H else H.set l ⟨79, 1, aq (dg xs) ++ List.replicate (n - (dg xs).length) zRw, true, true⟩) := by
 have hd := py xs
 simp only [yB, hb, hd, if_true]
 have hk : n9 ⟨79, 1, aq xs, true, true⟩ n xs := ⟨rfl, hn, hg⟩
 rw [eq_true hk]
 rfl
theorem Hp {g : Gra} {D : List (IR 2)} (hD : oT D) (b c : Bool) : EA [aG g, .agg cl2, .agg [.slice 1 b colE, .slice 1 c (aq D)]] = some (True, .agg [.slice 1 false colE, .slice 1 false (aq (xg D))]) := by
 have hd := py D
 have ho : ((∃ g' : Gra, bq (aG g) = aG g') /\ cl2 = cl2 /\ colE = colE /\ aq D = aq (jU (aq D)) /\ oT (jU (aq D))) := ⟨⟨g, by simp [aG, bq]⟩, rfl, rfl, by rw [hd], by rw [hd]; exact hD⟩
 show some (_, _) = _
 rw [eq_true ho, hd]
theorem G5 {x y z : Int} (hx : InQ x) (hy : InQ y) (hz : InQ z) : gdR (⟨[x, y, z]⟩ : IR 2) := by
 refine ⟨by simp, λ v hv => ?_⟩
 simp only [mem_cons, not_mem_nil, or_false] at hv
 rcases hv with rfl | rfl | rfl
 ·exact .inr ⟨rfl, hx.inR⟩
 ·exact .inr ⟨rfl, hy.inR⟩
 ·exact .inr ⟨rfl, hz.inR⟩
theorem zC {α : Type} [DecidableEq α] : ∀ (l : List α) (p : α), (dgF p l).Sublist l
 | [], p => List.Sublist.refl _
 | y :: r, p => by
  rw [dgF]
  have := zC r y
  split
  ·exact List.Sublist.cons _ this
  ·exact List.Sublist.cons_cons _ this
theorem JH {α : Type} [DecidableEq α] (l : List α) : (dg l).Sublist l := by
 cases l with
 | nil => exact List.Sublist.refl _
 | cons x r => exact List.Sublist.cons_cons _ (zC r x)
noncomputable def CPr : Ctx := mkC prog G0 [(114, .pure nX), (118, .pure Ek), (117, .gen yF), (120, .gen yB), (123, .frz EA)]
@[simp] theorem Uu : CPr.P = prog := rfl
@[simp] theorem Ut : CPr.G = G0 := rfl
@[simp] theorem Us : CPr.S 114 = .pure nX /\ CPr.S 118 = .pure Ek /\ CPr.S 117 = .gen yF /\ CPr.S 120 = .gen yB /\ CPr.S 123 = .frz EA := ⟨rfl, rfl, rfl, rfl, rfl⟩
theorem eM : aB CPr := aH (JM) func114 (aH (RN) func118 (aD (aF (SA) func117 rfl (by decide)) (aD (aF (NF) func120 rfl (by decide)) (aD (lU (Sz) func123 rfl (by decide)) (ax _ _)))))
def pjH (g : Gra) (L : List (IR 5)) (n : Nat) (X : List (IR 2)) : List Blk := [gBx g, ⟨69, 21, [cl2], true, true⟩, ⟨38, 2, [[.slice 1 false colE, .slice 1 false (aq L)]], true, true⟩, ⟨38, 2, [[.slice 1 true [], .slice 1 true []]], true, true⟩, ⟨38, 2, [[.own 5 3, .own 6 n]], true, false⟩, ⟨9, 1, colE, true, true⟩, ⟨79, 1, aq X, true, true⟩]
theorem Si : PureOK prog G0 61 xc := by
 refine ew λ avs ob r hp hob => ?_
 unfold xc at hp
 split at hp
 case h_2 => cases hp
 rename_i a c b1 cols b2 rows
 simp only [Option.some.injEq, Prod.mk.injEq] at hp
 obtain ⟨rfl, rfl⟩ := hp
 obtain ⟨⟨g, ha⟩, rfl, rfl, hrw, hgd⟩ := hob
 obtain ⟨L, hL⟩ : ∃ L, vz rows = L := ⟨_, rfl⟩
 rw [hL] at hrw hgd ⊢
 subst hrw
 refine hU (C := CPr) func61 rfl rfl rfl (by show 3 <= _; decide) (ay eM mixed (hd := [18, 20, 23]) _ (by kernel_rfl) ?_)
 have hLl := hgd.1
 obtain ⟨XS, hXS⟩ : ∃ XS, L.map to2 = XS := ⟨_, rfl⟩
 have hXl : XS.length = L.length := by rw [<- hXS, length_map]
 simp only [List.map, ha, dc, iP, aG, cl2, idE, vaE, exE]
 simp [ac, ag, ae, am, ap, aa, au, ab, ao, ak, ah, ai, aj, argsρ]
 refine AW.weak (fu 4 0 0 1 9 rfl rfl rfl (by decide)) ?_
 refine bG 4 ?_
 refine aJ eM mixed [18, 20, 23] (by kernel_rfl) ?_
 simp [ac, ag, ae, am, ap, aa, au, ab, ao, ak, ah, ai, aj, w1, w2, w3]
 refine aJ eM mixed [18, 20, 23] (by kernel_rfl) ?_
 simp [ac, ag, ae, am, ap, aa, au, ab, ao, ak, ah, ai, aj, w1, w2, w3]
 refine aJ eM mixed [18, 20, 23] (by kernel_rfl) ?_
 simp [ac, ag, ae, am, ap, aa, au, ab, ao, ak, ah, ai, aj, w1, w2, w3]
 refine aJ eM mixed [18, 20, 23] (by kernel_rfl) ?_
 simp [ac, ag, ae, am, ap, aa, au, ab, ao, ak, ah, ai, aj, w1, w2, w3]
 refine AW.weak ((cU (ρ' := [(3, .ptr 0 1 4 0 0), (4, .ptr 1 1 21 0 0), (5, .ptr 2 1 2 0 0), (6, .ptr 3 1 2 0 0), (7, .ptr 4 1 2 0 0), (45, .slice 1 false (aq L)), (46, .int .i64 L.length), (47, .int .i64 0)]) (H' := [gBx g, ⟨69, 21, [cl2], true, true⟩, ⟨38, 2, [[.slice 1 false colE, .slice 1 false (aq L)]], true, true⟩, ⟨38, 2, [[.slice 1 true [], .slice 1 true []]], true, true⟩, ⟨38, 2, [[.own 5 3, .slice 1 true []]], true, false⟩, ⟨9, 1, colE, true, true⟩]) 6 (by simp) (zero_le _) (by simp [AV.cleanF, AV.clean2, AV.clean1]) (by simp [AV.cleanF, AV.clean2, AV.clean1]) ?_).trans (fu 4 0 1 1 79 rfl rfl rfl (by decide))) ?_
 ·simp [gBx, cl2, idE, vaE, exE, colE]
 refine aA eM mixed [18, 20, 23] (λ i : Nat => ⟨[(3, .ptr 0 1 4 0 0), (4, .ptr 1 1 21 0 0), (5, .ptr 2 1 2 0 0), (6, .ptr 3 1 2 0 0), (7, .ptr 4 1 2 0 0), (45, .slice 1 false (aq L)), (46, .int .i64 L.length), (47, .int .i64 i)], pjH g L i (XS.take i)⟩) (λ i => i <= L.length) (λ i => L.length - i) (by kernel_rfl) ⟨0, by omega, ar (by simp [pjH])⟩ (λ i hi => ?_)
 by_cases hlt : i < L.length
 ·have i1 : I64 ((i : Int) + 1) := by unfold I64; omega
  obtain ⟨x, y, z, hr, hx, hy, hz⟩ := hgd.2 _ (bJ hlt)
  have hA := C9 (g := g) hx hy hz false (idE sA) (.inl rfl)
  have hB := C9 (g := g) hx hy hz false (idE sB) (.inr (.inl rfl))
  have hC := C9 (g := g) hx hy hz false (idE sC) (.inr (.inr rfl))
  rw [Ol, NW] at hA
  rw [Om, NX] at hB
  rw [On, NY] at hC
  simp only [aG, idE, vaE, exE, vC] at hA hB hC
  have hen : ∀ b c, nX [.slice 1 b colE, .slice 5 c (wV x y z)] = some (True, .slice 6 false (fv x y z)) := λ b c => An b c x y z
  have hmi : min i XS.length = i := by omega
  have hrow : aq (XS.take (i + 1)) = aq (XS.take i) ++ [[.slice 5 false (D4 x y z)]] := by
   rw [gK (by omega), bX]
   have : ix XS i = ⟨[x, y, z]⟩ := by rw [bF (by omega)]; simp only [<- hXS, getElem_map, <- bF hlt, hr]; rfl
   rw [this, <- LU]; rfl
  simp [ac, ag, ae, am, ap, aa, au, ab, ao, ak, ah, ai, aj, hlt, aw hlt, hr, pjH, gBx, cl2, idE, vaE, exE, uG]
  refine AW.weak (ev 13 5 62 (by simp) (by decide)) ?_
  refine bG 4 ?_
  refine aJ eM mixed [18, 20, 23] (by kernel_rfl) ?_
  simp [ac, ag, ae, am, ap, aa, au, ab, ao, ak, ah, ai, aj, w1, w2, w3]
  refine aE eM mixed [.pure, .read, .pure, .read, .pure, .read, .pure, .read, .read, .eff, .eff, .pure] [[],[],[],[2],[],[4],[],[6,4,5],[5,4,6,7,2,3,1],[1,3,2,7,6,4,5,8],[8,5,4,6,7,2,3,1,9,0],[0,9,1,3,2,7,6,4,5,8,10]] (by kernel_rfl) (by kernel_rfl) (by kernel_rfl) (by kernel_rfl) ?_
  simp [ac, ag, ae, am, ap, aa, au, ab, ao, ak, ah, ai, aj, w1, w2, w3, hen, hA]
  refine aJ eM mixed [18, 20, 23] (by kernel_rfl) ?_
  simp [ac, ag, ae, am, ap, aa, au, ab, ao, ak, ah, ai, aj, w1, w2, w3]
  refine aE eM mixed [.pure, .read, .pure, .read, .pure, .read, .pure, .read, .read, .eff, .eff, .pure] [[],[],[],[2],[],[4],[],[6,4,5],[5,4,6,7,2,3,1],[1,3,2,7,6,4,5,8],[8,5,4,6,7,2,3,1,9,0],[0,9,1,3,2,7,6,4,5,8,10]] (by kernel_rfl) (by kernel_rfl) (by kernel_rfl) (by kernel_rfl) ?_
  simp [ac, ag, ae, am, ap, aa, au, ab, ao, ak, ah, ai, aj, w1, w2, w3, hen, hB]
  refine aJ eM mixed [18, 20, 23] (by kernel_rfl) ?_
  simp [ac, ag, ae, am, ap, aa, au, ab, ao, ak, ah, ai, aj, w1, w2, w3]
  refine aE eM mixed [.pure, .read, .pure, .read, .pure, .read, .pure, .read, .read, .eff, .eff, .pure] [[],[],[],[2],[],[4],[],[6,4,5],[5,4,6,7,2,3,1],[1,3,2,7,6,4,5,8],[8,5,4,6,7,2,3,1,9,0],[0,9,1,3,2,7,6,4,5,8,10]] (by kernel_rfl) (by kernel_rfl) (by kernel_rfl) (by kernel_rfl) ?_
  simp [ac, ag, ae, am, ap, aa, au, ab, ao, ak, ah, ai, aj, w1, w2, w3, hen, hC]
  refine aJ eM mixed [18, 20, 23] (by kernel_rfl) ?_
  simp [ac, ag, ae, am, ap, aa, au, ab, ao, ak, ah, ai, aj, w1, w2, w3]
  refine AW.weak ((gR 13).trans (cU (ρ' := [(3, .ptr 0 1 4 0 0), (4, .ptr 1 1 21 0 0), (5, .ptr 2 1 2 0 0), (6, .ptr 3 1 2 0 0), (7, .ptr 4 1 2 0 0), (13, .slice 5 false (D4 x y z)), (45, .slice 1 false (aq L)), (46, .int .i64 L.length), (47, .int .i64 i)]) (H' := pjH g L i (XS.take i)) 7 (by simp [aQ, aX, D4]) (zero_le _) (by simp [AV.cleanF, AV.clean2, AV.clean1]) ?_ (by simp [bo, aQ, df, pjH, gBx, cl2, idE, vaE, exE]))) ?_
  ·simp [bo, aQ, df, AV.cleanF, AV.clean2, AV.clean1]
  refine fB eM mixed (by kernel_rfl) ?_
  simp [ac, ag, ae, am, ap, aa, au, ab, ao, ak, ah, ai, aj, pjH, gBx, i1, hmi]
  refine ⟨by omega, i + 1, by omega, by omega, ?_⟩
  rw [hrow]
  exact ar (by simp)
 ·have hie : i = L.length := by omega
  subst hie
  rw [show XS.take L.length = XS by rw [<- hXl]; exact take_length]
  simp [ac, ag, ae, am, ap, aa, au, ab, ao, ak, ah, ai, aj, pjH, gBx, cl2, idE, vaE, exE]
  obtain ⟨S, hS⟩ : ∃ S, cT cfR XS = S := ⟨_, rfl⟩
  obtain ⟨D, hD⟩ : ∃ D, dg S = D := ⟨_, rfl⟩
  have hres : lC L = xg D := by unfold lC; rw [hXS, hS, hD]
  have hgX : oT XS := ⟨by omega, λ r hr => by
   rw [<- hXS] at hr
   obtain ⟨q, hq, rfl⟩ := mem_map.1 hr
   obtain ⟨x, y, z, rfl, hx, hy, hz⟩ := hgd.2 q hq
   exact G5 hx hy hz⟩
  have hSp := (dh (l7 2) (l := XS) (λ _ _ => trivial)).1
  rw [hS] at hSp
  have hSl : S.length = L.length := by rw [hSp.length_eq, hXl]
  have hgS : oT S := ⟨by omega, λ r hr => hgX.2 r (hSp.mem_iff.1 hr)⟩
  have hDl : D.length <= S.length := by rw [<- hD]; exact Is S
  have hgD : oT D := ⟨by omega, λ r hr => hgS.2 r (by rw [<- hD] at hr; exact dg_mem.1 hr)⟩
  rw [hres]
  have h1 := Hq (l := 6) (n := L.length) (H := pjH g L L.length XS) (xs := XS) rfl hXl hgX
  rw [hS] at h1
  have h2 := Hd (l := 7) (n := L.length) (H := pjH g L L.length XS ++ [⟨79, 1, aq S, true, true⟩]) (xs := S) rfl hSl hgS
  rw [hD] at h2
  have h3 := Hp (g := g) hgD false false
  simp only [aG, cl2, idE, vaE, exE, cons_append, nil_append] at h3
  simp only [pjH, gBx, cl2, idE, vaE, exE, length_cons, List.length_nil, cons_append, nil_append] at h1 h2
  have hc3 : colE.length = 3 := rfl
  refine fB eM mixed (by kernel_rfl) ?_
  rcases em2 (D.length = L.length) with e | e
  ·rw [if_pos (of_eq_true e), if_pos (of_eq_true e)] at h2
   have hSD : D = S := by rw [<- hD]; exact (JH S).eq_of_length (by rw [hD, hSl]; exact of_eq_true e)
   rw [hSD] at h3 ⊢
   simp [ac, ag, ae, am, ap, aa, au, ab, ao, ak, ah, ai, aj, h1, h2, h3, hc3, hSl]
  ·rw [if_neg (of_eq_false e), if_neg (of_eq_false e)] at h2
   simp only [List.set] at h2
   have hDD : D.length + (L.length - D.length) = L.length := by omega
   simp [ac, ag, ae, am, ap, aa, au, ab, ao, ak, ah, ai, aj, h1, h2, h3, hc3, hDD]
theorem CK : cl2 = [.int .i64 4, .bool false, .bool true, .slice 3 false [], .slice 9 false [], .int .i64 0, .int .i64 0, .int .i64 0, .int .i64 0, .str ⟨#[]⟩, .slice 5 false [], .str ⟨#[]⟩, .bool false, .slice 9 false [], .str ⟨#[]⟩, .slice 10 false [idE sA ++ [.str sA], idE sB ++ [.str sB], idE sC ++ [.str sC]], .slice 10 false [], .int .i64 (-1), .int .i64 (-1), .slice 13 false [], .slice 1 false []] := rfl
def mG (g : Gra) : Prop := WfG g /\ cB g = 0 /\ GdG g /\ (wkN g).length <= 1000000
def K0 : PSp := cM [.agg cl1] (.int .i64 0)
def K1 : PSp := cM [.agg cl2] (.int .i64 0)
def KY : PSp := cM [qV] (.tup [.slice 1 false colE, .int .i64 0, .int .i64 0])
def K9 : PSp := cM [qV] (.bool false)
theorem iZ {A : List AV} {r : AV} (h : A.map bq = A) : cM A r A = some (True, r) := by
 show some (_, _) = _
 rw [eq_true h]
theorem G9 : K0 [.agg cl1] = some (True, .int .i64 0) := iZ rfl
theorem Ha : K1 [.agg cl2] = some (True, .int .i64 0) := iZ rfl
theorem G7 : KY [qV] = some (True, .tup [.slice 1 false colE, .int .i64 0, .int .i64 0]) := iZ rfl
theorem Ht : K9 [qV] = some (True, .bool false) := iZ rfl
theorem HJ (b c : Bool) : [AV.slice 1 b [], .slice 1 c [[.slice 5 false []]]].map gi = n8 := rfl
theorem Aq {g : Gra} (h : mG g) (b c : Bool) : w8 [aG g, .agg cl1, .agg [.slice 1 b [], .slice 1 c [[.slice 5 false []]]]] = some (True, .agg [.slice 1 false colE, .slice 1 false (aq (hJ g))]) := by
 have e : (Enc.dec (aG g) : Gra) = g := Enc.dec_enc g
 have hk : (bq (aG g) = aG (Enc.dec (aG g) : Gra) /\ cl1 = cl1 /\ [AV.slice 1 b [], .slice 1 c [[.slice 5 false []]]].map gi = n8 /\ WfG (Enc.dec (aG g) : Gra) /\ cB (Enc.dec (aG g) : Gra) = 0 /\ GdG (Enc.dec (aG g) : Gra) /\ (wkN (Enc.dec (aG g) : Gra)).length <= 1000000) := by
  rw [e]
  exact ⟨by simp [aG, bq], rfl, HJ b c, h⟩
 show some (_, _) = _
 rw [eq_true hk, e]
theorem As {g : Gra} {L : List (IR 5)} (h : FL L) (b c : Bool) : xc [aG g, .agg cl2, .agg [.slice 1 b colE, .slice 1 c (aq L)]] = some (True, .agg [.slice 1 false colE, .slice 1 false (aq (lC L))]) := by
 have e := C0 L
 have hk : ((∃ g' : Gra, bq (aG g) = aG g') /\ cl2 = cl2 /\ colE = colE /\ aq L = aq (vz (aq L)) /\ FL (vz (aq L))) := ⟨⟨g, by simp [aG, bq]⟩, rfl, rfl, by rw [e], by rw [e]; exact h⟩
 show some (_, _) = _
 rw [eq_true hk, e]
noncomputable def CS1 : Ctx := mkC prog G0 [(52, .pure K0), (59, .pure w8)]
@[simp] theorem UV : CS1.P = prog := rfl
@[simp] theorem UU : CS1.G = G0 := rfl
@[simp] theorem UT : CS1.S 52 = .pure K0 /\ CS1.S 59 = .pure w8 := ⟨rfl, rfl⟩
theorem Ls : aB CS1 := aH (Ny) func52 (aH (R5) func59 (ax _ _))
noncomputable def CS2 : Ctx := mkC prog G0 [(52, .pure K1), (61, .pure xc)]
@[simp] theorem UY : CS2.P = prog := rfl
@[simp] theorem UX : CS2.G = G0 := rfl
@[simp] theorem UW : CS2.S 52 = .pure K1 /\ CS2.S 61 = .pure xc := ⟨rfl, rfl⟩
theorem Lt : aB CS2 := aH (Nz) func52 (aH (Si) func61 (ax _ _))
theorem SE : PureOK prog G0 24 w8 := by
 refine ew λ avs ob r hp hob => ?_
 unfold w8 at hp
 split at hp
 case h_2 => cases hp
 rename_i a c t
 simp only [Option.some.injEq, Prod.mk.injEq] at hp
 obtain ⟨rfl, rfl⟩ := hp
 obtain ⟨ha, rfl, ht, hpre⟩ := hob
 obtain ⟨g, hg⟩ : ∃ g, (Enc.dec a : Gra) = g := ⟨_, rfl⟩
 rw [hg] at ha hpre ⊢
 refine hU (C := CS1) func24 rfl rfl rfl (by show 3 <= _; decide) (ay Ls mixed (hd := []) _ (by kernel_rfl) ?_)
 have hm := Aq hpre false false
 have hc := G9
 simp only [aG, jc] at hm hc
 simp only [List.map, ha, dc, iP, ht, aG, n8, jc]
 simp [ac, ag, ae, am, ap, aa, au, ab, ao, ak, ah, ai, aj, argsρ, hm, hc]
theorem SF : PureOK prog G0 24 xc := by
 refine ew λ avs ob r hp hob => ?_
 unfold xc at hp
 split at hp
 case h_2 => cases hp
 rename_i a c b1 cols b2 rows
 simp only [Option.some.injEq, Prod.mk.injEq] at hp
 obtain ⟨rfl, rfl⟩ := hp
 obtain ⟨⟨g, ha⟩, rfl, rfl, hrw, hgd⟩ := hob
 obtain ⟨L, hL⟩ : ∃ L, vz rows = L := ⟨_, rfl⟩
 rw [hL] at hrw hgd ⊢
 subst hrw
 refine hU (C := CS2) func24 rfl rfl rfl (by show 3 <= _; decide) (ay Lt mixed (hd := []) _ (by kernel_rfl) ?_)
 have hm := As (g := g) hgd false false
 have hc := Ha
 simp only [aG, CK, idE, vaE, exE, cons_append, nil_append] at hm hc
 simp only [List.map, ha, dc, iP, aG, CK, idE, vaE, exE, cons_append, nil_append]
 simp [ac, ag, ae, am, ap, aa, au, ab, ao, ak, ah, ai, aj, argsρ, hm, hc]
def BT : PSp := λ args => match args with
 | [a, .agg (.int k n :: c), t] => if n = 1 then w8 [a, .agg (.int k n :: c), t] else xc [a, .agg (.int k n :: c), t]
 | _ => none
theorem SJ : PureOK prog G0 24 BT := by
 intro w X args avs ob r hX hG hsz harg hp hob
 unfold BT at hp
 split at hp
 ·split at hp
  ·exact SE w X args _ ob r hX hG hsz harg hp hob
  ·exact SF w X args _ ob r hX hG hsz harg hp hob
 ·cases hp
noncomputable def CRw : Ctx := mkC prog G0 [(21, .pure KY), (22, .pure K9), (23, .pure sGc), (24, .pure BT)]
@[simp] theorem US : CRw.P = prog := rfl
@[simp] theorem UR : CRw.G = G0 := rfl
@[simp] theorem UQ : CRw.S 21 = .pure KY /\ CRw.S 22 = .pure K9 /\ CRw.S 23 = .pure sGc /\ CRw.S 24 = .pure BT := ⟨rfl, rfl, rfl, rfl⟩
theorem ur : aB CRw := aH (Rg) func21 (aH (SZ) func22 (aH (gcP) func23 (aH (SJ) func24 (ax _ _))))
theorem Dy {g : Gra} (h : mG g) : FL (hJ g) := by
 obtain ⟨_, _, hgd, hln⟩ := h
 have hp1 := (dh (l7 5) (l := wkN g) (λ _ _ => trivial)).1
 have hp2 := (dh (l7 5) (l := (cT cfR (wkN g)).filter lw) (λ _ _ => trivial)).1
 refine ⟨?_, λ r hr => ?_⟩
 ·unfold hJ
  rw [hp2.length_eq]
  exact le_trans (length_filter_le _ _) (by rw [hp1.length_eq]; exact hln)
 ·have h1 := (mem_filter.1 (hp2.mem_iff.1 hr)).1
  exact ALz0 hgd r (hp1.mem_iff.1 h1)
def Ex : PSp := λ args => match args with
 | [a, q] => some (bq a = aG (Enc.dec a : Gra) /\ q = qV /\ mG (Enc.dec a : Gra), .tup [.agg [.slice 1 false colE, .slice 1 false (aq (lC (hJ (Enc.dec a : Gra))))], .int .i64 0])
 | _ => none
theorem Ow : PureOK prog G0 8 Ex := by
 refine ew λ avs ob r hp hob => ?_
 unfold Ex at hp
 split at hp
 case h_2 => cases hp
 rename_i a q
 simp only [Option.some.injEq, Prod.mk.injEq] at hp
 obtain ⟨rfl, rfl⟩ := hp
 obtain ⟨ha, rfl, hpre⟩ := hob
 obtain ⟨g, hg⟩ : ∃ g, (Enc.dec a : Gra) = g := ⟨_, rfl⟩
 rw [hg] at ha hpre ⊢
 refine hU (C := CRw) func8 rfl rfl rfl (by show 2 <= _; decide) (ay ur mixed (hd := []) _ (by kernel_rfl) ?_)
 have hgc : sGc [aG g] = some (True, .int .i64 0) := by
  rw [Em, eq_true (⟨hpre.1, hpre.2.1⟩ : _ /\ _)]
 have h1 : ∀ b c, BT [aG g, .agg cl1, .agg [.slice 1 b [], .slice 1 c [[.slice 5 false []]]]] = some (True, .agg [.slice 1 false colE, .slice 1 false (aq (hJ g))]) := λ b c => Aq hpre b c
 have h2 : ∀ b c, BT [aG g, .agg cl2, .agg [.slice 1 b colE, .slice 1 c (aq (hJ g))]] = some (True, .agg [.slice 1 false colE, .slice 1 false (aq (lC (hJ g)))]) := λ b c => As (Dy hpre) b c
 have hb := G7
 have hu := Ht
 obtain ⟨M, hM⟩ : ∃ M, aq (hJ g) = M := ⟨_, rfl⟩
 obtain ⟨R, hR⟩ : ∃ R, aq (lC (hJ g)) = R := ⟨_, rfl⟩
 rw [hM] at h1 h2
 rw [hR] at h2 ⊢
 obtain ⟨c1, hc1⟩ : ∃ c1, cl1 = c1 := ⟨_, rfl⟩
 obtain ⟨c2, hc2⟩ : ∃ c2, cl2 = c2 := ⟨_, rfl⟩
 have l1 : c1.length = 21 := by rw [<- hc1]; rfl
 have l2 : c2.length = 21 := by rw [<- hc2]; rfl
 have n1 : c1.map gi = c1 := by rw [<- hc1]; rfl
 have a1 : c1.all AV.isDeep = true := by rw [<- hc1]; rfl
 have v1 : ∀ H, c1.map (aX H 5) = c1 := λ H => by rw [<- hc1]; rfl
 have t1 : c1.take 21 = c1 := by rw [<- hc1]; rfl
 have n2 : c2.map gi = c2 := by rw [<- hc2]; rfl
 have a2 : c2.all AV.isDeep = true := by rw [<- hc2]; rfl
 have v2 : ∀ H, c2.map (aX H 5) = c2 := λ H => by rw [<- hc2]; rfl
 have t2 : c2.take 21 = c2 := by rw [<- hc2]; rfl
 simp only [aG, qV, hc1, hc2] at hgc h1 h2 hb hu
 simp only [List.map, ha, dc, iP, aG, qV, hc1, hc2]
 simp [ac, ag, ae, am, ap, aa, au, ab, ao, ak, ah, ai, aj, argsρ, hgc, hb, hu]
 refine bG 3 ?_
 refine aJ ur mixed [] (by kernel_rfl) ?_
 simp [ac, ag, ae, am, ap, aa, au, ab, ao, ak, ah, ai, aj, w1, w2, l1, n1, a1, v1, t1, h1]
 refine aJ ur mixed [] (by kernel_rfl) ?_
 simp [ac, ag, ae, am, ap, aa, au, ab, ao, ak, ah, ai, aj, w1, w2, l2, n2, a2, v2, t2, h2]
 refine aJ ur mixed [] (by kernel_rfl) ?_
 simp [ac, ag, ae, am, ap, aa, au, ab, ao, ak, ah, ai, aj, w1, w2]
def twD (d : List (Int × List Int)) (a : Int) (l : List Int) : Nat := (l.map λ x => (px ⟨d⟩ a x).length).sum
def j8 (g : Gra) : List Int := g.nodes.map (·.id)
theorem oB {g : Gra} {a : Int} (h : a ∈ j8 g) : ∃ k, tZ (nrF g) a = some k /\ nK ⟨nrF g⟩ a = k /\ k.Nodup /\ ∀ x, x ∈ k ↔ gz (bO g) a x = true := by
 obtain ⟨k, h1, h2, h3⟩ := Bw (es := bO g) h
 exact ⟨k, h1, by unfold nK; rw [show tZ (nrF g) a = some k from h1]; rfl, h2, h3⟩
theorem zj {g : Gra} (hp : kX g) {a x : Int} (h : gz (bO g) a x = true) : x ∈ j8 g := by
 obtain ⟨_, _, _, he⟩ := hp
 simp only [gz, Bool.and_eq_true, decide_eq_true_eq, any_eq_true, Bool.or_eq_true] at h
 obtain ⟨_, e, hee, h⟩ := h
 obtain ⟨e', he', rfl⟩ := mem_map.1 hee
 obtain ⟨⟨n1, m1, q1⟩, ⟨n2, m2, q2⟩⟩ := he e' he'
 rcases h with ⟨_, rfl⟩ | ⟨rfl, _⟩
 ·exact mem_map.2 ⟨n2, m2, q2⟩
 ·exact mem_map.2 ⟨n1, m1, q1⟩
theorem wz {g : Gra} (hp : kX g) {a : Int} {k : List Int} (h : kOf (nrF g) a = some k) : k.length <= 2000 := by
 obtain ⟨p, hp1, rfl⟩ := tN h
 have := tC (bO g) (m := 0) (d := ji g.nodes) (λ p hp => by
  obtain ⟨a, _, rfl⟩ := mem_map.1 hp
  simp) p hp1
 have h2 : (bO g).length <= 1000 := by unfold bO; rw [length_map]; exact hp.2.2.1
 omega
theorem LO {g : Gra} (hp : kX g) {a : Int} (h : a ∈ j8 g) : twD (nrF g) a (nK ⟨nrF g⟩ a) = eN (gz (bO g)) ((j8 g).filter (gz (bO g) a)) := by
 obtain ⟨k, h1, h2, h3, h4⟩ := oB h
 have hperm : k.Perm ((j8 g).filter (gz (bO g) a)) := qK hp.1 (λ e he => by
  obtain ⟨e', he', rfl⟩ := mem_map.1 he
  obtain ⟨⟨n1, m1, q1⟩, ⟨n2, m2, q2⟩⟩ := hp.2.2.2 e' he'
  exact ⟨mem_map.2 ⟨n1, m1, q1⟩, mem_map.2 ⟨n2, m2, q2⟩⟩) h3 h4
 rw [<- xp hperm, h2]
 unfold twD eN
 refine congrArg List.sum (map_congr_left λ x hx => ?_)
 obtain ⟨kx, _, e2, _, e4⟩ := oB (zj hp ((h4 x).1 hx))
 unfold px
 rw [iY, h2, e2]
 refine congrArg List.length (List.filter_congr λ y _ => ?_)
 cases hb : gz (bO g) x y with
 | true => exact decide_eq_true ((e4 y).2 hb)
 | false => exact decide_eq_false λ hy => by rw [(e4 y).1 hy] at hb; cases hb
def dV (g : Gra) : List (List AV) := g.nodes.map λ n => [.int .i64 n.id, .int .i64 ((twD (nrF g) n.id (nK ⟨nrF g⟩ n.id) / 2 : Nat) : Int)]
theorem y5 {g : Gra} {i : Nat} (h : i < g.nodes.length) : (dV g).take (i + 1) = (dV g).take i ++ [[.int .i64 (ix g.nodes i).id, .int .i64 ((twD (nrF g) (ix g.nodes i).id (nK ⟨nrF g⟩ (ix g.nodes i).id) / 2 : Nat) : Int)]] := by
 unfold dV
 rw [<- map_take, <- map_take, gK h, map_append]
 rfl
def xd : PSp := aW (λ (g : Gra) (ts : List ByteArray) => ts = [] /\ WfG g /\ cB g = 0 /\ kX g) (λ g _ => .slice 2 false (dV g))
noncomputable def CTr : Ctx := mkC prog G0 [(23, .pure sGc), (25, .pure sNb), (26, .pure Eg)]
@[simp] theorem Vg : CTr.P = prog := rfl
@[simp] theorem Vf : CTr.G = G0 := rfl
@[simp] theorem Ve : CTr.S 23 = .pure sGc /\ CTr.S 25 = .pure sNb /\ CTr.S 26 = .pure Eg := ⟨rfl, rfl, rfl⟩
theorem ep : aB CTr := aH (gcP) func23 (aH (nbP) func25 (aH (F7) func26 (ax _ _)))
def prB (rows : List (List AV)) : Blk := ⟨44, 2, rows, true, true⟩
def kV (g : Gra) (i : Nat) : ASt := ⟨[(2, .ptr 0 1 4 0 0), (5, .mapd true (fg (nrF g))), (6, .own 1 i), (18, .slice 3 false (aq g.nodes)), (19, .int .i64 g.nodes.length), (20, .int .i64 i)], [gBk g, prB ((dV g).take i)]⟩
def xk (g : Gra) (i : Nat) (r : Nat) (done : List AV) : ASt := ⟨[(2, .ptr 0 1 4 0 0), (5, .mapd true (fg (nrF g))), (6, .own 1 i), (8, .ptr 2 1 3 0 0), (9, .int .i64 (twD (nrF g) (ix g.nodes i).id (unK done))), (18, .slice 3 false (aq g.nodes)), (19, .int .i64 g.nodes.length), (20, .int .i64 i), (28, .itp r)], [gBk g, prB ((dV g).take i), nBk (ix g.nodes i)]⟩
def AG (g : Gra) (i : Nat) : ASt := ⟨[(2, .ptr 0 1 4 0 0), (5, .mapd true (fg (nrF g))), (6, .own 1 (i + 1)), (18, .slice 3 false (aq g.nodes)), (19, .int .i64 g.nodes.length), (20, .int .i64 i)], [gBk g, prB ((dV g).take (i + 1))]⟩
def Fc (g : Gra) (i : Nat) : ASt := ⟨[(2, .ptr 0 1 4 0 0), (5, .mapd true (fg (nrF g))), (6, .own 1 i), (8, .ptr 2 1 3 0 0), (9, .int .i64 0), (18, .slice 3 false (aq g.nodes)), (19, .int .i64 g.nodes.length), (20, .int .i64 i)], [gBk g, prB ((dV g).take i), nBk (ix g.nodes i)]⟩
def Fd (g : Gra) (i : Nat) : ASt := ⟨[(2, .ptr 0 1 4 0 0), (5, .mapd true (fg (nrF g))), (6, .own 1 i), (8, .ptr 2 1 3 0 0), (9, .int .i64 (twD (nrF g) (ix g.nodes i).id (nK ⟨nrF g⟩ (ix g.nodes i).id))), (18, .slice 3 false (aq g.nodes)), (19, .int .i64 g.nodes.length), (20, .int .i64 i)], [gBk g, prB ((dV g).take i), nBk (ix g.nodes i)]⟩
theorem CS (d : List (Int × List Int)) (a x : Int) : (px ⟨d⟩ a x).length <= (nK ⟨d⟩ a).length := by
 unfold px
 rw [iY]
 exact length_filter_le _ _
theorem y8 (d : List (Int × List Int)) (a : Int) : ∀ l : List Int, twD d a l <= l.length * (nK ⟨d⟩ a).length
 | [] => by simp [twD]
 | x :: l => by
  have := y8 d a l
  have h2 := CS d a x
  unfold twD at this ⊢
  rw [map_cons, List.sum_cons, length_cons, Nat.add_mul]
  omega
theorem Hg {d : List (Int × List Int)} {a b : Int} : Eg [.mapd true (fg d), .int .i64 a, .int .i64 b] = some (xB ⟨d⟩ a b, .slice 1 false (aq (px ⟨d⟩ a b))) := by
 simp [Eg, eV]
theorem O3 : PureOK prog G0 9 xd := by
 refine KN (C := CTr) func9 rfl rfl rfl (by decide) (λ g ts hp => ?_)
 obtain ⟨rfl, hwf, hck, hnb⟩ := hp
 have hgc : sGc [aG g] = some (True, .int .i64 0) := by simp [sGc, aN, aG, hwf, hck]
 have hnr : ∀ b, sNb [aG g, .slice 1 b []] = some (True, .mapd true (fg (nrF g))) := λ b => by
  simp [sNb, aW, aG, hnb]
 simp only [aG] at hgc hnr
 have hnl := hnb.2.1
 have hfl : (dV g).length = g.nodes.length := by simp [dV]
 refine eC ⟨[(1, .slice 1 false []), (2, .ptr 0 1 4 0 0)], [gBk g]⟩ (ay ep mixed (hd := []) _ (by kernel_rfl) ?_) ?_
 ·simp [ac, ag, ae, am, ap, aa, au, ab, ao, ak, ah, ai, aj]
  exact ar (by simp [gBk])
 refine eC ⟨[(1, .slice 1 false []), (2, .ptr 0 1 4 0 0)], [gBk g]⟩ (ay ep mixed (hd := []) _ (by kernel_rfl) ?_) ?_
 ·simp [ac, ag, ae, am, ap, aa, au, ab, ao, ak, ah, ai, aj, gBk, hgc]
  exact ar (by simp [gBk])
 refine eC ⟨[(2, .ptr 0 1 4 0 0), (5, .mapd true (fg (nrF g)))], [gBk g]⟩ (ay ep mixed (hd := []) _ (by kernel_rfl) ?_) ?_
 ·simp [ac, ag, ae, am, ap, aa, au, ab, ao, ak, ah, ai, aj, gBk, hnr]
  exact ar (by simp [gBk])
 refine eC ⟨[(2, .ptr 0 1 4 0 0), (5, .mapd true (fg (nrF g))), (6, .own 1 0)], [gBk g, prB []]⟩ (ay ep mixed (hd := []) _ (by kernel_rfl) ?_) ?_
 ·simp [ac, ag, ae, am, ap, aa, au, ab, ao, ak, ah, ai, aj]
  exact (ev 6 2 44 (by simp) (by decide)).trans (ar (by simp [gBk, prB]))
 refine eC ⟨[(6, .own 1 g.nodes.length)], [gBk g, prB (dV g)]⟩ ?_ (ay ep mixed (hd := []) _ (by kernel_rfl) ?_)
 rotate_left
 ·simp [ac, ag, ae, am, ap, aa, au, ab, ao, ak, ah, ai, aj, prB, hfl]
 refine eC (kV g 0) (ay ep mixed (hd := []) _ (by kernel_rfl) ?_) ?_
 ·simp [ac, ag, ae, am, ap, aa, au, ab, ao, ak, ah, ai, aj, gBk]
  exact ar (by simp [kV, gBk, prB])
 refine lK (gV (kV g) (λ i => i <= g.nodes.length) (λ i => g.nodes.length - i) ⟨0, by omega, Weak.refl _⟩ (λ i hi => ?_))
 by_cases hlt : i < g.nodes.length
 ·have i1 : I64 ((i : Int) + 1) := by unfold I64; omega
  refine eC ⟨(21, .bool true) :: (kV g i).ρ, (kV g i).H⟩ (ay ep mixed (hd := []) _ (by kernel_rfl) ?_) ?_
  ·simp [ac, ag, ae, am, ap, aa, au, ab, ao, ak, ah, ai, aj, kV, hlt]
   exact ar (by simp [aQ])
  refine eC (kV g i) (ay ep mixed (hd := []) _ (by kernel_rfl) ?_) ?_
  ·simp [ac, ag, ae, am, ap, aa, au, ab, ao, ak, ah, ai, aj, kV]
   exact ar (by simp [aQ])
  refine eC (AG g i) (lK ?_) (ay ep mixed (hd := []) _ (by kernel_rfl) ?_)
  rotate_left
  ·simp [ac, ag, ae, am, ap, aa, au, ab, ao, ak, ah, ai, aj, AG, i1]
   exact ⟨i + 1, by omega, by omega, ar (by simp [kV])⟩
  refine eC ⟨(8, .ptr 2 1 3 0 0) :: (kV g i).ρ, [gBk g, prB ((dV g).take i), nBk (ix g.nodes i)]⟩ (ay ep mixed (hd := []) _ (by kernel_rfl) ?_) ?_
  ·simp [ac, ag, ae, am, ap, aa, au, ab, ao, ak, ah, ai, aj, kV, hlt, aw hlt, gBk, prB]
   exact ar (by simp [aQ, nBk, gBk, prB])
  refine eC (Fc g i) (ay ep mixed (hd := []) _ (by kernel_rfl) ?_) ?_
  ·simp [ac, ag, ae, am, ap, aa, au, ab, ao, ak, ah, ai, aj, kV]
   exact ar (by simp [aQ, Fc])
  have hmem : (ix g.nodes i).id ∈ j8 g := mem_map.2 ⟨_, bJ hlt, rfl⟩
  obtain ⟨k, k1, k2, k3, k4⟩ := oB hmem
  have hkb : k.length <= 1000 := by
   have hp2 : k.Perm ((j8 g).filter (gz (bO g) (ix g.nodes i).id)) := qK hnb.1 (λ e he => by
    obtain ⟨e', he', rfl⟩ := mem_map.1 he
    obtain ⟨⟨n1, m1, q1⟩, ⟨n2, m2, q2⟩⟩ := hnb.2.2.2 e' he'
    exact ⟨mem_map.2 ⟨n1, m1, q1⟩, mem_map.2 ⟨n2, m2, q2⟩⟩) k3 k4
   rw [hp2.length_eq]
   refine le_trans (length_filter_le _ _) ?_
   simpa [j8] using hnl
  refine eC (Fd g i) ?_ (ay ep mixed (hd := []) _ (by kernel_rfl) ?_)
  rotate_left
  ·have hkl := wz hnb (show kOf (nrF g) (ix g.nodes i).id = some k from k1)
   have htw := y8 (nrF g) (ix g.nodes i).id k
   have hb : k.length * (nK ⟨nrF g⟩ (ix g.nodes i).id).length <= 2000 * 2000 := by rw [k2]; exact Nat.mul_le_mul hkl hkl
   have i2 : I64 ((twD (nrF g) (ix g.nodes i).id k : Int) / 2) := by unfold I64; omega
   have hmi : min i (dV g).length = i := by rw [hfl]; omega
   simp [ac, ag, ae, am, ap, aa, au, ab, ao, ak, ah, ai, aj, Fd, nBk, prB, gBk, k2, i2, hmi]
   refine ⟨by omega, bH 2 (by simp [AG]) (zero_le _) (by simp [AV.clean, AV.clean1]) (by simp) ?_⟩
   simp [AG, gBk, prB, y5 hlt, k2]
  refine rn ep (pre := [_, _, _, _]) rfl rfl rfl rfl ⟨3, 4, by kernel_rfl⟩ rfl rfl rfl rfl rfl rfl rfl rfl (by kernel_rfl) (xk g i) (kb := true) (ents := cQ k) (λ r done => by simp [xk, aQ]) ?_ ?_ ?_
  ·simp [ac, ag, ae, am, ap, aa, au, ab, ao, ak, ah, ai, aj, Fc, nBk, k1]
   intro r
   exact ar (by simp [xk, twD, unK, aQ, nBk])
  ·intro r done hd
   have hu := xq hd
   rw [mC] at hu
   have ht : twD (nrF g) (ix g.nodes i).id (unK done) = twD (nrF g) (ix g.nodes i).id k := (hu.map _).sum_nat
   simp [ac, ag, ae, am, ap, aa, au, ab, ao, ak, ah, ai, aj, xk, ht]
   exact ar (by simp [Fd, k2])
  ·intro r done κ v rem hperm
   have hmem2 : AV.tup [κ, v] ∈ cQ k := hperm.mem_iff.1 (by simp)
   obtain ⟨x, hx, hxe⟩ := mem_map.1 hmem2
   injection hxe with hxe; injection hxe with e1 e2; injection e2 with e2 _
   subst e1 e2
   have hkl := wz hnb (show kOf (nrF g) (ix g.nodes i).id = some k from k1)
   have hdl : (unK done).length <= k.length := by
    have := hperm.length_eq
    simp [cQ] at this
    simp [unK]
    omega
   have htw := y8 (nrF g) (ix g.nodes i).id (unK done)
   have hb : (unK done).length * (nK ⟨nrF g⟩ (ix g.nodes i).id).length <= 2000 * 2000 := by rw [k2]; exact Nat.mul_le_mul (by omega) hkl
   have hcl := CS (nrF g) (ix g.nodes i).id x
   rw [k2] at hcl
   obtain ⟨kx, x1, _⟩ := oB (zj hnb ((k4 x).1 hx))
   have hcp : xB ⟨nrF g⟩ (ix g.nodes i).id x := ⟨by rw [show tZ (nrF g) _ = _ from k1]; rfl, by rw [show tZ (nrF g) _ = _ from x1]; rfl, by rw [k2]; have := hkb; omega⟩
   have hcm := @Hg (nrF g) (ix g.nodes i).id x
   rw [eq_true hcp] at hcm
   have hsn : twD (nrF g) (ix g.nodes i).id (unK (done ++ [.tup [.int .i64 x, .bool true]])) = twD (nrF g) (ix g.nodes i).id (unK done) + (px ⟨nrF g⟩ (ix g.nodes i).id x).length := by
    rw [xt]
    unfold twD
    simp
   have i2 : I64 ((twD (nrF g) (ix g.nodes i).id (unK done) : Int) + (px ⟨nrF g⟩ (ix g.nodes i).id x).length) := by unfold I64; omega
   simp [ac, ag, ae, am, ap, aa, au, ab, ao, ak, ah, ai, aj, xk, nBk]
   refine fB ep mixed (by kernel_rfl) ?_
   simp [ac, ag, ae, am, ap, aa, au, ab, ao, ak, ah, ai, aj, hcm, i2, GZ]
   exact ar (by simp [aQ, hsn])
 ·have hie : i = g.nodes.length := by omega
  subst hie
  refine eC ⟨(21, .bool false) :: (kV g g.nodes.length).ρ, (kV g g.nodes.length).H⟩ (ay ep mixed (hd := []) _ (by kernel_rfl) ?_) ?_
  ·simp [ac, ag, ae, am, ap, aa, au, ab, ao, ak, ah, ai, aj, kV]
   exact ar (by simp [aQ])
  refine oS (ay ep mixed (hd := []) _ (by kernel_rfl) ?_)
  have htl : (dV g).take g.nodes.length = dV g := by rw [<- hfl]; exact take_length
  simp [ac, ag, ae, am, ap, aa, au, ab, ao, ak, ah, ai, aj, kV, htl]
  exact ar (by simp [aQ, prB])
theorem F5 {g : Gra} (h : cB g = 0) : g.nn <= 1000001 /\ (∀ i, i < g.nodes.length -> dW g i = 0) /\ ∀ i, i < g.edges.length -> ig g i = 0 := by
 unfold cB at h
 split at h
 ·cases h
 split at h
 ·cases h
 split at h
 ·cases h
 split at h
 ·cases h
 split at h
 ·cases h
 split at h
 ·cases h
 split at h
 ·rename_i h1; exact absurd h h1
 ·rename_i h1
  refine ⟨by omega, firN_zero.1 (by omega), firN_zero.1 h⟩
theorem GS {l : List ByteArray} {ps : List Prp} (h : cn l ps = 0) : l.length <= 8 /\ ps.length <= 16 /\ ∀ p ∈ ps, fh p.v = true := by
 unfold cn at h
 repeat' split at h
 all_goals first | (cases h; done) | skip
 rename_i h1
 have h2 : gF ps = true := by cases e : gF ps <;> simp_all
 exact ⟨by omega, by omega, of_decide_eq_true h2⟩
theorem GP {v : Val} (h : fh v = true) : v.l = [] := by
 simp only [fh, Bool.and_eq_true, Bool.or_eq_true, decide_eq_true_eq] at h
 obtain ⟨h1, h2⟩ := h
 obtain ⟨k, n, d, s, l⟩ := v
 have hb : ∀ a b c, bx (.mk k n d s l) a b c false = true -> l = [] := λ a b c hb => by
  simp only [bx, Bool.and_eq_true, Bool.false_or] at hb
  exact List.isEmpty_iff.1 hb.2
 show l = []
 unfold okV eW at h1
 have h2 : (k = 1 ∨ k = 2) ∨ k = 4 := h2
 rcases h2 with (rfl | rfl) | rfl
 ·rw [if_neg (by decide), if_pos rfl, Bool.and_eq_true] at h1
  exact hb _ _ _ h1.1
 ·rw [if_neg (by decide), if_neg (by decide), if_pos rfl, Bool.and_eq_true] at h1
  exact hb _ _ _ h1.1
 ·rw [if_neg (by decide), if_neg (by decide), if_neg (by decide), if_neg (by decide), if_pos rfl, Bool.and_eq_true] at h1
  exact hb _ _ _ h1.1
theorem zG {l : List ByteArray} {ps : List Prp} (h : cn l ps = 0) : kW ps /\ l.length <= 1000000 := by
 obtain ⟨h1, h2, h3⟩ := GS h
 exact ⟨⟨by omega, λ p hp => GP (h3 p hp)⟩, by omega⟩
theorem z8 {g : Gra} {i : Nat} (h : dW g i = 0) : (0 < i -> (ix g.nodes (i - 1)).id < (ix g.nodes i).id) /\ 1 <= (ix g.nodes i).id /\ (ix g.nodes i).id < g.nn /\ cn (ix g.nodes i).labels (ix g.nodes i).props = 0 := by
 unfold dW at h
 split at h
 ·cases h
 split at h
 ·cases h
 split at h
 ·cases h
 rename_i h1 h2 h3
 exact ⟨λ hi => by
  rcases Int.lt_or_le (ix g.nodes (i - 1)).id (ix g.nodes i).id with h4 | h4
  ·exact h4
  ·exact absurd ⟨hi, h4⟩ h1, by omega, by omega, h⟩
theorem Ge {g : Gra} {i : Nat} (h : ig g i = 0) : (eT g (ix g.edges i).frm).2 = true /\ (eT g (ix g.edges i).to).2 = true /\ cn [] (ix g.edges i).props = 0 := by
 unfold ig at h
 split at h
 ·cases h
 split at h
 ·cases h
 split at h
 ·cases h
 split at h
 ·cases h
 split at h
 ·cases h
 split at h
 ·cases h
 rename_i h3 h4 h5
 exact ⟨by simpa using h3, by simpa using h4, h⟩
theorem IK {α : Type} [Inhabited α] {l : List α} {x : α} (h : x ∈ l) : ∃ i, i < l.length /\ ix l i = x := by
 obtain ⟨i, hi, rfl⟩ := mem_iff_getElem.1 h
 exact ⟨i, hi, bF hi⟩
theorem Dn {g : Gra} (h : ∀ i, i < g.nodes.length -> dW g i = 0) : ∀ (j i : Nat), j < g.nodes.length -> i < j -> (ix g.nodes i).id < (ix g.nodes j).id
 | 0, i, _, h2 => absurd h2 (by omega)
 | j + 1, i, h1, h2 => by
  have h3 := (z8 (h (j + 1) h1)).1 (by omega)
  simp only [Nat.add_sub_cancel] at h3
  rcases Nat.lt_or_eq_of_le (Nat.le_of_lt_succ h2) with h4 | rfl
  ·have := Dn h j i (by omega) h4
   omega
  ·exact h3
theorem Bm {g : Gra} (h : ∀ i, i < g.nodes.length -> dW g i = 0) : (g.nodes.map (·.id)).Nodup := by
 unfold List.Nodup
 rw [List.pairwise_iff_getElem]
 intro i j hi hj hij
 simp only [length_map] at hi hj
 have := Dn h j i hj hij
 rw [bF hi, bF hj] at this
 simp only [getElem_map]
 omega
theorem jY {α β : Type} {f : α -> List β} {m : Nat} : ∀ (l : List α), (∀ a ∈ l, (f a).length <= m) -> (l.flatMap f).length <= l.length * m
 | [], _ => by simp
 | a :: r, h => by
  have h1 := h a (List.mem_cons_self ..)
  have h2 := jY r λ b hb => h b (List.mem_cons_of_mem _ hb)
  rw [flatMap_cons, List.length_append, length_cons, Nat.succ_mul]
  omega
theorem E8 {g : Gra} (h : g.edges.length <= 8) (p : Int) : (bu (bO g) p).length <= 8 := le_trans (kQ _ _) (by unfold bO; rw [length_map]; exact h)
theorem HZ {g : Gra} (hn : g.nodes.length <= 6) (he : g.edges.length <= 8) : (wkN g).length <= 1000000 := by
 have a2 : ∀ x y z, (wk2 (bO g) x y z).length <= 8 := λ x y z => by
  have := jY (m := 1) (bu (bO g) z) (f := λ c => if x = c.t then [(⟨[x, y, z]⟩ : IR 5)] else []) λ c _ => by split <;> simp
  have h8 := E8 he z
  unfold wk2
  omega
 have a1 : ∀ x y, (wk1 (bO g) x y).length <= 64 := λ x y => by
  have := jY (m := 8) (bu (bO g) y) (f := λ b => wk2 (bO g) x y b.t) λ b _ => a2 x y b.t
  have h8 := E8 he y
  unfold wk1
  omega
 have a0 : ∀ x, (wk0 (bO g) x).length <= 512 := λ x => by
  have := jY (m := 64) (bu (bO g) x) (f := λ a => wk1 (bO g) x a.t) λ a _ => a1 x a.t
  have h8 := E8 he x
  unfold wk0
  omega
 have := jY (m := 512) g.nodes (f := λ n => wk0 (bO g) n.id) λ n _ => a0 n.id
 unfold wkN
 omega
theorem Gv {g : Gra} (hw : WfG g) (hc : cB g = 0) (hn : g.nodes.length <= 6) (he : g.edges.length <= 8) : mG g /\ kX g := by
 obtain ⟨hnn, hnd, hed⟩ := F5 hc
 have hN : ∀ n ∈ g.nodes, (1 <= n.id /\ n.id <= 1000000) /\ kW n.props /\ n.labels.length <= 1000000 := λ n hnm => by
  obtain ⟨i, hi, rfl⟩ := IK hnm
  obtain ⟨_, h2, h3, h4⟩ := z8 (hnd i hi)
  exact ⟨⟨h2, by omega⟩, zG h4⟩
 have hE : ∀ e ∈ g.edges, (∃ n ∈ g.nodes, n.id = e.frm) /\ (∃ n ∈ g.nodes, n.id = e.to) /\ kW e.props := λ e hem => by
  obtain ⟨i, hi, rfl⟩ := IK hem
  obtain ⟨h1, h2, h3⟩ := Ge (hed i hi)
  exact ⟨pU h1, pU h2, (zG h3).1⟩
 refine ⟨⟨hw, hc, ⟨⟨λ n hnm => (hN n hnm).2, by omega⟩, λ e h => (hE e h).2.2, he, λ e h => (hE e h).1, λ e h => (hE e h).2.1, λ n h => (hN n h).1⟩, HZ hn he⟩, Bm hnd, by omega, by omega, λ e h => ⟨(hE e h).1, (hE e h).2.1⟩⟩
theorem kf {α β γ : Type} (f : β -> γ) (g : α -> List β) : ∀ l : List α, (l.flatMap g).map f = l.flatMap λ a => (g a).map f
 | [] => rfl
 | a :: r => by rw [flatMap_cons, flatMap_cons, map_append, kf f g r]
theorem vS {α β γ : Type} (f : α -> β) (g : β -> List γ) : ∀ l : List α, (l.map f).flatMap g = l.flatMap λ a => g (f a)
 | [] => rfl
 | a :: r => by rw [map_cons, flatMap_cons, flatMap_cons, vS f g r]
theorem Fu (g : Gra) : (wkN g).map IR.l = pQ (j8 g) (bO g) := by
 unfold wkN pQ j8
 rw [kf, vS]
 refine congrArg (List.flatMap · g.nodes) (funext λ n => ?_)
 unfold wk0
 rw [kf]
 refine congrArg (List.flatMap · _) (funext λ a => ?_)
 unfold wk1
 rw [kf]
 refine congrArg (List.flatMap · _) (funext λ b => ?_)
 unfold wk2
 rw [kf]
 refine congrArg (List.flatMap · _) (funext λ c => ?_)
 by_cases h : n.id = c.t
 ·rw [if_pos h, if_pos h.symm]; rfl
 ·rw [if_neg h, if_neg (λ e => h e.symm)]; rfl
theorem Nc {k : Int} (x y : IR k) (h1 : LeC cfR x y) (h2 : LeC cfR y x) : x = y := by
 have := Cx x.l y.l h1 h2
 obtain ⟨a⟩ := x
 obtain ⟨b⟩ := y
 simp only at this
 rw [this]
theorem i5 {k : Int} {l : List (IR k)} {x : IR k} : x ∈ cT cfR l ↔ x ∈ l := (dh (l7 k) (l := l) (λ _ _ => trivial)).1.mem_iff
theorem Dz {g : Gra} {l : List Int} : (∃ r ∈ hJ g, r.l = l) ↔ l ∈ pQ (j8 g) (bO g) /\ ra l = true := by
 rw [<- Fu, mem_map]
 constructor
 ·rintro ⟨r, hr, rfl⟩
  unfold hJ at hr
  rw [i5, mem_filter, i5] at hr
  exact ⟨⟨r, hr.1, rfl⟩, hr.2⟩
 ·rintro ⟨⟨r, hr, rfl⟩, hd⟩
  refine ⟨r, ?_, rfl⟩
  unfold hJ
  rw [i5, mem_filter, i5]
  exact ⟨hr, hd⟩
theorem GR {g : Gra} : (lC (hJ g)).length = (GX (j8 g) (bO g)).length := by
 unfold lC xg GX
 rw [length_map, (dh ordW (λ _ _ => trivial)).1.length_eq]
 have hs : ∀ l : List IS, (cT cfS l).length = l.length := λ l => by unfold cT; rw [aZ]
 rw [hs, length_map]
 generalize hD : dg (cT dl (cT dl ((cT dl (pQ (j8 g) (bO g))).filter ra))) = D
 generalize hE : dg (cT cfR ((hJ g).map to2)) = E
 have hnd : D.Nodup := hD ▸ pA Cx (dh ordW (λ _ _ => trivial)).2
 have hne : E.Nodup := hE ▸ pA Nc (dh (l7 2) (λ _ _ => trivial)).2
 have hmd : ∀ l, l ∈ D ↔ l ∈ pQ (j8 g) (bO g) /\ ra l = true := λ l => by
  rw [<- hD, dg_mem, kP, kP, mem_filter, kP]
 have hme : ∀ l, l ∈ E.map IR.l ↔ l ∈ pQ (j8 g) (bO g) /\ ra l = true := λ l => by
  rw [<- Dz, mem_map]
  constructor
  ·rintro ⟨x, hx, rfl⟩
   rw [<- hE, dg_mem, i5, mem_map] at hx
   obtain ⟨r, hr, rfl⟩ := hx
   exact ⟨r, hr, rfl⟩
  ·rintro ⟨r, hr, rfl⟩
   refine ⟨to2 r, ?_, rfl⟩
   rw [<- hE, dg_mem, i5, mem_map]
   exact ⟨r, hr, rfl⟩
 have hnm : (E.map IR.l).Nodup := List.pairwise_map.2 (List.Pairwise.imp (λ {x y} hxy e => hxy (by
  obtain ⟨a⟩ := x
  obtain ⟨b⟩ := y
  simp only at e
  rw [e])) hne)
 have hp : (E.map IR.l).Perm D := (List.perm_ext_iff_of_nodup hnm hnd).2 λ l => by rw [hme, hmd]
 rw [<- hp.length_eq, length_map]
def xm (g : Gra) : Nat := (g.nodes.map λ n => twD (nrF g) n.id (nK ⟨nrF g⟩ n.id) / 2).sum
theorem GQ {g : Gra} (hp : kX g) : (lC (hJ g)).length = 2 * xm g := by
 rw [GR, GY (ns := j8 g) hp.1 (λ e he => ?_)]
 ·unfold xm
  rw [show j8 g = g.nodes.map (·.id) from rfl, List.map_map]
  congr 2
  refine map_congr_left λ n hn => ?_
  show eN (gz (bO g)) ((g.nodes.map (·.id)).filter (gz (bO g) n.id)) / 2 = _
  rw [LO hp (mem_map.2 ⟨n, hn, rfl⟩)]
  rfl
 ·obtain ⟨e', he', rfl⟩ := mem_map.1 he
  obtain ⟨⟨n, hn, e1⟩, ⟨m, hm, e2⟩⟩ := hp.2.2.2 e' he'
  exact ⟨mem_map.2 ⟨n, hn, e1⟩, mem_map.2 ⟨m, hm, e2⟩⟩
def sT1 : ByteArray := ⟨#[84]⟩
def qZ : Gra := ⟨[⟨1, [], []⟩, ⟨2, [], []⟩, ⟨3, [], []⟩], [⟨1, 1, 2, sT1, []⟩, ⟨2, 2, 3, sT1, []⟩, ⟨3, 3, 1, sT1, []⟩], 4, 4⟩
def jE : AV := .agg [.slice 3 false [[.int .i64 1, .slice 1 false [], .slice 6 false []], [.int .i64 2, .slice 1 false [], .slice 6 false []], [.int .i64 3, .slice 1 false [], .slice 6 false []]], .slice 5 false [[.int .i64 1, .int .i64 1, .int .i64 2, .str sT1, .slice 6 false []], [.int .i64 2, .int .i64 2, .int .i64 3, .str sT1, .slice 6 false []], [.int .i64 3, .int .i64 3, .int .i64 1, .str sT1, .slice 6 false []]], .int .i64 4, .int .i64 4]
def Rw : AV := .agg [.slice 3 true [[.int .i64 1, .slice 1 false [], .slice 6 false []], [.int .i64 2, .slice 1 false [], .slice 6 false []], [.int .i64 3, .slice 1 false [], .slice 6 false []]], .slice 5 true [[.int .i64 1, .int .i64 1, .int .i64 2, .str sT1, .slice 6 false []], [.int .i64 2, .int .i64 2, .int .i64 3, .str sT1, .slice 6 false []], [.int .i64 3, .int .i64 3, .int .i64 1, .str sT1, .slice 6 false []]], .int .i64 4, .int .i64 4]
def nW : AV := .slice 2 false [[.int .i64 1, .int .i64 1], [.int .i64 2, .int .i64 1], [.int .i64 3, .int .i64 1]]
theorem Rv : PureOK prog G0 14 (cM [] jE) :=
 cv (fs := [14]) (fz := [14]) (fuel := 400) (eo fq) (bB := bbL LBs) (em lM) (by kernel_rfl) mixed 30 (r0 := Rw) (H0 := []) (by kernel_rfl) (by kernel_rfl) rfl
theorem Sj : PureOK prog G0 13 (cM [nW, nW] (.bool true)) :=
 cv (fs := [13]) (fz := []) (fuel := 400) (eo fq) (bB := bbL LBs) (em lM) (by kernel_rfl) mixed 30 (r0 := .bool true) (H0 := []) (by kernel_rfl) (by kernel_rfl) rfl
def fsW : List FuncId := [15, 23, 31, 32, 33, 34, 35, 56, 57, 58, 62, 69, 70, 71, 102, 103, 104, 105, 106, 107, 108, 109, 112, 129, 168, 169, 170, 172, 234, 293, 294, 295, 296, 297, 354, 355, 399]
theorem Ta : PureOK prog G0 15 (cM [jE, .slice 1 false []] nW) :=
 cv (fs := fsW) (fz := [15]) (fuel := 400) (eo fq) (bB := bbL LBs) (em lM) (by kernel_rfl) mixed 30 (r0 := nW) (H0 := []) (by kernel_rfl) (by kernel_rfl) rfl
theorem A9 : cB qZ = 0 := by kernel_rfl
theorem JF : WfG qZ := by
 refine ⟨by decide, λ n hn => ?_, by decide, λ e he => ?_⟩
 ·simp only [qZ, mem_cons, not_mem_nil, or_false] at hn
  rcases hn with rfl | rfl | rfl <;> exact ⟨by decide, by simp, by decide, by simp⟩
 ·simp only [qZ, mem_cons, not_mem_nil, or_false] at he
  rcases he with rfl | rfl | rfl <;> exact ⟨by decide, by decide, by simp⟩
theorem JE : kX qZ := by
 refine ⟨by decide, by decide, by decide, λ e he => ?_⟩
 simp only [qZ, mem_cons, not_mem_nil, or_false] at he
 rcases he with rfl | rfl | rfl <;> simp [qZ]
theorem F8 : dV qZ = [[.int .i64 1, .int .i64 1], [.int .i64 2, .int .i64 1], [.int .i64 3, .int .i64 1]] := by kernel_rfl
def K2 : PSp := cM [] jE
def K7 : PSp := cM [nW, nW] (.bool true)
def La : PSp := cM [jE, .slice 1 false []] nW
noncomputable def CCn : Ctx := mkC prog G0 [(14, .pure K2), (13, .pure K7), (15, .pure La), (9, .pure xd)]
@[simp] theorem Tt : CCn.P = prog := rfl
@[simp] theorem Ts : CCn.G = G0 := rfl
@[simp] theorem Tq : CCn.S 14 = .pure K2 /\ CCn.S 13 = .pure K7 /\ CCn.S 15 = .pure La /\ CCn.S 9 = .pure xd := ⟨rfl, rfl, rfl, rfl⟩
theorem Lg : aB CCn := aH (Rv) func14 (aH (Sj) func13 (aH (Ta) func15 (aH (O3) func9 (ax _ _))))
def Ee : PSp := cM [] (.bool true)
theorem Rs : PureOK prog G0 6 Ee := by
 refine ew λ avs ob r hp hob => ?_
 simp only [Ee, cM, Option.some.injEq, Prod.mk.injEq] at hp
 obtain ⟨rfl, rfl⟩ := hp
 obtain rfl := List.map_eq_nil_iff.1 hob
 refine hU (C := CCn) func6 rfl rfl rfl (by show 0 <= _; decide) (ay Lg mixed (hd := []) _ (by kernel_rfl) ?_)
 have h1 : K2 [] = some (True, jE) := by
  have hk : ([] : List AV).map bq = [] := rfl
  show some (_, _) = _
  rw [eq_true hk]
 have h2 : ∀ b c, K7 [.slice 2 b [[.int .i64 1, .int .i64 1], [.int .i64 2, .int .i64 1], [.int .i64 3, .int .i64 1]], .slice 2 c [[.int .i64 1, .int .i64 1], [.int .i64 2, .int .i64 1], [.int .i64 3, .int .i64 1]]] = some (True, .bool true) := λ b c => by
  have hk : [AV.slice 2 b [[.int .i64 1, .int .i64 1], [.int .i64 2, .int .i64 1], [.int .i64 3, .int .i64 1]], .slice 2 c [[.int .i64 1, .int .i64 1], [.int .i64 2, .int .i64 1], [.int .i64 3, .int .i64 1]]].map bq = [nW, nW] := rfl
  show some (_, _) = _
  rw [eq_true hk]
 have h3 : ∀ b, La [jE, .slice 1 b []] = some (True, nW) := λ b => by
  have hk : [jE, .slice 1 b []].map bq = [jE, .slice 1 false []] := rfl
  show some (_, _) = _
  rw [eq_true hk]
 have h4 : ∀ b, xd [jE, .slice 1 b []] = some (True, nW) := λ b => by
  have e1 : (Enc.dec jE : Gra) = qZ := Enc.dec_enc qZ
  have e2 : (Enc.dec (.slice 1 b []) : List ByteArray) = [] := rfl
  have hk : (bq jE = Enc.enc (Enc.dec jE : Gra) /\ bq (.slice 1 b []) = Enc.enc (Enc.dec (.slice 1 b []) : List ByteArray) /\ ((Enc.dec (.slice 1 b []) : List ByteArray) = [] /\ WfG (Enc.dec jE : Gra) /\ cB (Enc.dec jE : Gra) = 0 /\ kX (Enc.dec jE : Gra))) := by
   rw [e1, e2]
   exact ⟨rfl, rfl, rfl, JF, A9, JE⟩
  show some (_, AV.slice 2 false (dV (Enc.dec jE : Gra))) = _
  rw [eq_true hk, e1, F8]
  rfl
 obtain ⟨V, hV⟩ : ∃ V, jE = V := ⟨_, rfl⟩
 simp only [jE] at h1 h3 h4
 simp only [nW] at h3 h4
 simp [ac, ag, ae, am, ap, aa, au, ab, ao, ak, ah, ai, aj, argsρ, h1, h2, h3, h4]
def RX (C : Ctx) (fn : Func) (r : AV) (X : Nat -> Prop) (w0 : World) : Exit -> Act -> World -> Prop :=
 bodyPostM Fence.wide 9 C.P fn λ e w' => ∃ v, e = .returned v /\ Keeps (λ _ => False) w0 w' /\ RepD w' X v r
def AWX (C : Ctx) (N : Nat) (fn : Func) (r : AV) (code : Code) (st : ASt) : Prop :=
 ∀ (X : Nat -> Prop) (w0 : World) (a : Act) (w : World), Rel C N X w0 [] [] st a w -> code.wpIn Fence.wide 9 C.P (RX C fn r X w0) a w
@[congr] theorem Me {C : Ctx} {N : Nat} {fn : Func} {r : AV} {code : Code} {st st' : ASt} (h : eH st = st') : AWX C N fn r code st = AWX C N fn r code st' := by rw [bK] at h; rw [h]
section
variable {C : Ctx} {N : Nat} {fn : Func} {r : AV}
theorem AWX.weak {code : Code} {st st' : ASt} (hw : Weak C N 0 st st') (h : AWX C N fn r code st') : AWX C N fn r code st := λ X w0 a w hr => h X w0 a w (hw X w0 [] [] a w rfl hr)
def AWXb (C : Ctx) (N : Nat) (fn : Func) (r : AV) (b c : Code) (st : ASt) : Prop :=
 ∀ (X : Nat -> Prop) (w0 : World) (a : Act) (w : World), Rel C N X w0 [] [] st a w -> b.wpIn Fence.wide 9 C.P (Exit.then (c.wpIn Fence.wide 9 C.P (RX C fn r X w0)) (RX C fn r X w0)) a w
@[congr] theorem I5 {C : Ctx} {N : Nat} {fn : Func} {r : AV} {b c : Code} {st st' : ASt} (h : eH st = st') : AWXb C N fn r b c st = AWXb C N fn r b c st' := by rw [bK] at h; rw [h]
theorem AWXb.weak {b c : Code} {st st' : ASt} (hw : Weak C N 0 st st') (h : AWXb C N fn r b c st') : AWXb C N fn r b c st := λ X w0 a w hr => h X w0 a w (hw X w0 [] [] a w rfl hr)
end
theorem Sm (p q : Addr) (w : World) : CallsDIn Fence.wide 8 prog 37 #[.pointer (some p), .pointer (some q)] .returning w λ e u' w' => e = .returned (.tuple #[]) /\ u' = .returning /\ w' = w := by
 refine callsDIn_of_wpSIn func37 rfl trivial λ c₀ cs hu => ?_
 apply wpSIn_seq
 apply wpSIn_region
 simp [wpOpsSIn, go_sem, recoverD, hu, Tryz.ntmps37, Exit.thenS]
 apply wpSIn_seq
 apply wpSIn_region
 simp [wpOpsSIn, go_sem, Exit.thenS, Tryz.underlying20]
 refine wpSIn_cond (t := false) (by simp [Act.eval, Array.replicate]) ?_
 simp only [Bool.false_eq_true, if_false]
 refine wpSIn_of_wpIn rfl (wpIn_skip ?_)
 cases c₀
 simp_all [bodyPostS, results, Tryz.results37]
theorem Se : aK prog G0 19 [.ptr 4 1 1 0 0] (qH2 0 0) (.agg (tk 0 134 0 [])) (qH2 0 0) :=
 sy (fs := [19]) (fz := []) (fuel := 50) (eo fq) (bB := bbL LBs) (em lM) (by kernel_rfl) mixed 2 (by kernel_rfl) (by kernel_rfl)
section
variable {C : Ctx} {N h0 : Nat} {X : Nat -> Prop} {w0 : World} {β0 : List BI} {H0 : List Blk}
theorem uH {a b : Code} {st : ASt} (S : ASt) {Q : Exit -> Act -> World -> Prop} {x : Act} {w : World} (h1 : AW C N h0 a st (λ ex st' => ex = .normal /\ Weak C N h0 st' S)) (hl : H0.length = h0) (hr : Rel C N X w0 β0 H0 st x w)
  (h2 : ∀ a' w', Rel C N X w0 β0 H0 S a' w' -> b.wpIn Fence.wide 9 C.P Q a' w') : (Code.seq a b).wpIn Fence.wide 9 C.P Q x w :=
 wpIn_seq (wpIn_mono (wpIn_wide.2 (h1 X w0 β0 H0 x w hl hr)) (by
  rintro e a' w' ⟨st', ⟨rfl, hw⟩, hr'⟩
  exact h2 a' w' (hw X w0 β0 H0 a' w' hl hr')))
end
def gQ1 : List AV -> List Blk -> Option (Prop × AV × List Blk) := kT [.ptr 4 1 1 0 0, .ptr 1 1 1 0 0] qH (.tup []) (qH2 0 0)
def gN1 : List AV -> List Blk -> Option (Prop × AV × List Blk) := kT [.ptr 4 1 1 0 0] (qH2 0 0) (.agg (tk 0 134 0 [])) (qH2 0 0)
def sTk : PSp := cM [.str qS] (.tup [xj, .int .i64 0, .int .i64 0])
noncomputable def CRn : Ctx := mkC prog G0 [(17, .gen gQ1), (19, .gen gN1), (36, .pure sTk)]
@[simp] theorem UP : CRn.P = prog := rfl
@[simp] theorem UO : CRn.G = G0 := rfl
@[simp] theorem UN : CRn.S 17 = .gen gQ1 /\ CRn.S 19 = .gen gN1 /\ CRn.S 36 = .pure sTk := ⟨rfl, rfl, rfl⟩
theorem uq : aB CRn := aD (aF (Sl) func17 rfl (by decide)) (aD (aF (Se) func19 rfl (by decide)) (aH (SW) func36 (ax _ _)))
def rH : List Blk := [⟨32, 1, [[.slice 21 true []]], true, true⟩, ⟨32, 1, [[.slice 21 true []]], true, true⟩]
def rH4 : List Blk := [⟨32, 1, [[.slice 21 true []]], true, true⟩, ⟨32, 1, [[.slice 21 true []]], true, true⟩, ⟨3, 1, [[.int .i64 0]], true, true⟩, ⟨27, 1, [[.int .i64 0]], true, true⟩]
theorem Sw : aK prog G0 16 [.str qS, .fn 17 [.ptr 1 1 1 0 0]] rH (.tup [.int .i64 134, .int .i64 0]) (qH2 134 0) := by
 intro w X β H args avs ob r1 H1' R hG hsz harg hp hob
 unfold kT at hp
 simp only [Option.some.injEq, Prod.mk.injEq] at hp
 obtain ⟨rfl, rfl, rfl⟩ := hp
 obtain ⟨rfl, rfl⟩ := hob
 obtain ⟨T, hT⟩ : ∃ T, xj = .slice 5 false T := ⟨_, rfl⟩
 have hs1 : sTk [.str qS] = some (True, .tup [.slice 5 false T, .int .i64 0, .int .i64 0]) := by
  rw [<- hT]; simp [sTk, cM]
 obtain ⟨q, hq⟩ : ∃ q, qS = q := ⟨_, rfl⟩
 have hqs : q.size = 134 := by rw [<- hq]; rfl
 refine Go.callsIn_wide.1 (callsIn_of_wp_defers (n := 9) func16 rfl trivial ?_)
 have hr : Rel CRn Tryz.f16.ntmps X w β rH ⟨argsρ 0 [.str qS, .fn 17 [.ptr 1 1 1 0 0]], rH⟩ { tmps := args ++ Array.replicate (Tryz.f16.ntmps - args.size) undef, defers := [] } w :=
  ⟨β, R, StepR.refl _ _ _ R.len, ed hsz harg, hG, by simp [hsz], rfl⟩
 rw [hq] at hr hs1
 refine uH (C := CRn) (h0 := 2) ⟨[(0, .str q), (1, .fn 17 [.ptr 1 1 1 0 0]), (4, .ptr 2 1 1 0 0), (5, .ptr 3 1 1 0 0)], rH4⟩ (ay uq mixed (hd := []) _ (by kernel_rfl) ?_) rfl hr λ a1 w1 r1 => ?_
 ·simp [ac, ag, ae, am, ap, aa, au, ab, ao, ak, ah, ai, aj, argsρ, rH, rH4]
  exact ar (by simp)
 refine uH (C := CRn) (h0 := 2) ⟨[(0, .str q), (1, .fn 17 [.ptr 1 1 1 0 0]), (4, .ptr 2 1 1 0 0), (5, .ptr 3 1 1 0 0), (6, .slice 5 false T)], rH4⟩ (ay uq mixed (hd := []) _ (by kernel_rfl) ?_) rfl r1 λ a2 w2 r2 => ?_
 ·simp [ac, ag, ae, am, ap, aa, au, ab, ao, ak, ah, ai, aj, rH4, hs1]
  exact ar (by simp)
 refine uH (C := CRn) (h0 := 2) ⟨[(0, .str q), (1, .fn 17 [.ptr 1 1 1 0 0]), (4, .ptr 2 1 1 0 0), (5, .ptr 3 1 1 0 0), (6, .slice 5 false T)], rH4⟩ (ay uq mixed (hd := [3]) _ (by kernel_rfl) ?_) rfl r2 λ a3 w3 r3 => ?_
 ·simp [ac, ag, ae, am, ap, aa, au, ab, ao, ak, ah, ai, aj, rH4]
  exact ar (by simp)
 obtain ⟨p, hp4⟩ : ∃ p, a3.eval (.tmp 4) = .pointer (some p) := by
  obtain ⟨β', R', S', T', G', hN', hd'⟩ := r3
  obtain ⟨p, _, hp, _⟩ := dS (T' 4)
  exact ⟨p, hp⟩
 obtain ⟨p', hp5⟩ : ∃ p, a3.eval (.tmp 5) = .pointer (some p) := by
  obtain ⟨β', R', S', T', G', hN', hd'⟩ := r3
  obtain ⟨p, _, hp, _⟩ := dS (T' 5)
  exact ⟨p, hp⟩
 have hd3 : a3.defers = [] := by obtain ⟨_, _, _, _, _, _, h⟩ := r3; exact h
 have hN3 : a3.tmps.size = 33 := by obtain ⟨_, _, _, _, _, h, _⟩ := r3; exact h
 refine wpIn_seq (wpIn_region_list ?_)
 have e4 : a3.tmps[4]?.getD undef = .pointer (some p) := by rw [<- hp4]; simp [Act.eval]
 have e5 : a3.tmps[5]?.getD undef = .pointer (some p') := by rw [<- hp5]; simp [Act.eval]
 have f4 : ∀ h : 4 < a3.tmps.size, a3.tmps[4]'h = .pointer (some p) := λ h => by
  rw [Array.getElem?_eq_getElem h] at e4; exact e4
 have f5 : ∀ h : 5 < a3.tmps.size, a3.tmps[5]'h = .pointer (some p') := λ h => by
  rw [Array.getElem?_eq_getElem h] at e5; exact e5
 simp [wpListIn, Oper.wpIn, Oper.semAt, go_sem, e4, e5, hN3, hd3, f4, f5]
 have hr5 := md r3 (d := 18) (by show 18 < 33; decide) (u := .func (.func 37) #[] #[.pointer (some p), .pointer (some p')]) (r := .undef) (λ Y => .undef _)
 have hact : ({ tmps := a3.tmps.setIfInBounds 18 (.func (.func 37) #[] #[.pointer (some p), .pointer (some p')]), defers := [{ target := .fn (.func 37) #[.pointer (some p), .pointer (some p')], args := #[] }] } : Act) = gv (a3.put (some 18) (.func (.func 37) #[] #[.pointer (some p), .pointer (some p')])) [{ target := .fn (.func 37) #[.pointer (some p), .pointer (some p')], args := #[] }] := by
  simp [gv, Act.put, hd3]
 rw [hact]
 have key : ∀ (code : Code), jT 33 code = true -> du CRn [] 33 2 code ⟨[(18, .undef), (0, .str q), (1, .fn 17 [.ptr 1 1 1 0 0]), (4, .ptr 2 1 1 0 0), (5, .ptr 3 1 1 0 0), (6, .slice 5 false T)], rH4⟩ (Bd CRn 33 2 [.cell 4 3, .cell 5 27] (.tup [.int .i64 134, .int .i64 0]) (qH2 134 0)) ->
   code.wpIn Fence.wide 9 prog (bodyPostDIn Fence.wide 9 prog Tryz.f16 λ e w' => ∃ v, e = .returned v /\ ∃ x, HRel w' X x (qH2 134 0) /\ StepR w β rH w' x (qH2 134 0) /\ Rep w' (Mu X x (qH2 134 0)) x (qH2 134 0) v (.tup [.int .i64 134, .int .i64 0]))
    (gv (a3.put (some 18) (.func (.func 37) #[] #[.pointer (some p), .pointer (some p')])) [{ target := .fn (.func 37) #[.pointer (some p), .pointer (some p')], args := #[] }]) w3 := by
  intro code hok hav
  refine wpIn_mono (eS (C := CRn) uq (ro := none) (n := 9) (ds := [{ target := .fn (.func 37) #[.pointer (some p), .pointer (some p')], args := #[] }]) code hok hav hr5) ?_
  rintro e a' w' ⟨a'', ⟨st', hq', hr'⟩, rfl⟩
  have hd' : a''.defers = [] := by obtain ⟨_, _, _, _, _, _, h⟩ := hr'; exact h
  have fin : kS CRn 33 2 [.cell 4 3, .cell 5 27] (.tup [.int .i64 134, .int .i64 0]) (qH2 134 0) st' -> LeavesIn Fence.wide 9 prog Tryz.f16 a''.tmps (λ e w' => ∃ v, e = .returned v /\ ∃ x, HRel w' X x (qH2 134 0) /\ StepR w β rH w' x (qH2 134 0) /\ Rep w' (Mu X x (qH2 134 0)) x (qH2 134 0) v (.tup [.int .i64 134, .int .i64 0])) [{ target := .fn (.func 37) #[.pointer (some p), .pointer (some p')], args := #[] }] .returning w' := by
   rintro ⟨st2, hw, hH, hok⟩
   obtain ⟨β', R', S', T', G', hN', hdef'⟩ := hw X w β rH a'' w' rfl hr'
   refine leavesIn_cons (f := 37) (args := #[.pointer (some p), .pointer (some p')]) (by simp) (by simp [Fence.wide]) (by simp [go_sem]) (λ _ _ => trivial) ?_
   refine (Sm p p' w').mono ?_
   rintro e u' w'' ⟨rfl, rfl, rfl⟩
   unfold wC at hok
   split at hok
   ·rename_i ob' v hres
    obtain ⟨hob', rfl⟩ := hok
    obtain ⟨u, hu, hrep⟩ := ck (fn := Tryz.f16) R' T' hres hob'
    rw [hH] at R' S' hrep
    exact ⟨u, hu, u, rfl, β', R', S', hrep⟩
   ·exact hok.elim
  cases e with
  | normal => show LeavesIn _ _ _ _ _ _ (a''.defers ++ _) _ _; rw [hd']; exact fin hq'
  | ret => show LeavesIn _ _ _ _ _ _ (a''.defers ++ _) _ _; rw [hd']; exact fin hq'
  | _ => exact hq'.elim
 refine key _ (by kernel_rfl) ?_
 simp [ac, ag, ae, am, ap, aa, au, ab, ao, ak, ah, ai, aj, rH4, gQ1, kT]
 refine ⟨by rw [qH, hT], ?_⟩
 simp [ac, ag, ae, am, ap, aa, au, ab, ao, ak, ah, ai, aj, qH2, gN1, kT, tk, hqs]
 exact bf rfl (by simp [ac, ag, ae, am, ap, aa, au, ab, ao, ak, ah, ai, aj])
def C7 (a b : Blk) : Bool := a.e == b.e && a.sz == b.sz && eqL (eqL (pE 40)) a.rows b.rows && a.mu == b.mu && a.deep == b.deep
theorem vM {a b : Blk} (h : C7 a b = true) : a = b := by
 obtain ⟨e, z, r, m, d⟩ := a
 obtain ⟨e', z', r', m', d'⟩ := b
 simp only [C7, Bool.and_eq_true, beq_iff_eq] at h
 obtain ⟨⟨⟨⟨rfl, rfl⟩, h3⟩, rfl⟩, rfl⟩ := h
 rw [eQ (λ a b h => eQ (λ a b h => jf 40 h) h) h3]
def Di (A : List AV) (H : List Blk) (r : AV) (H' : List Blk) : List AV -> List Blk -> Option (Prop × AV × List Blk) := λ args h => if eqL (pE 40) args A && eqL C7 h H then some (True, r, H') else none
theorem Gj {P : Program} {G : Nat -> AV} {f : FuncId} {A : List AV} {H : List Blk} {r : AV} {H' : List Blk} (h : aK P G f A H r H') : bg P G f (Di A H r H') := by
 refine jh λ A1 H1 ob r1 H1' hg hob => ?_
 unfold Di at hg
 split at hg
 ·rename_i hc
  rw [Bool.and_eq_true] at hc
  simp only [Option.some.injEq, Prod.mk.injEq] at hg
  obtain ⟨_, rfl, rfl⟩ := hg
  rw [eQ (λ a b h => jf 40 h) hc.1, eQ (λ a b h => vM h) hc.2]
  exact h
 ·cases hg
theorem Bh (A : List AV) (H : List Blk) (r : AV) (H' : List Blk) : nQ (.gen (Di A H r H')) := λ A1 H1 ob r1 H1' hq => by
 unfold Di at hq
 split at hq
 ·simp only [Option.some.injEq, Prod.mk.injEq] at hq
  rw [<- hq.1]; trivial
 ·cases hq
def Gk : List AV -> List Blk -> Option (Prop × AV × List Blk) := Di [.str qS, .fn 17 [.ptr 1 1 1 0 0]] rH (.tup [.int .i64 134, .int .i64 0]) (qH2 134 0)
theorem N2 : bg prog G0 16 Gk := Gj Sw
noncomputable def CBu : Ctx := mkC prog G0 [(16, .gen Gk), (210, .pure iU), (206, .pure nc)]
@[simp] theorem Tm : CBu.P = prog := rfl
@[simp] theorem Tl : CBu.G = G0 := rfl
@[simp] theorem Tk : CBu.S 16 = .gen Gk /\ CBu.S 210 = .pure iU /\ CBu.S 206 = .pure nc := ⟨rfl, rfl, rfl⟩
theorem Le : aB CBu := aD (aF (N2) func16 rfl (by decide)) (aH (CY) func210 (aH (LQ) func206 (ax _ _)))
@[reducible] noncomputable def LBu : List (Nat × Entry) := [(16, .gen Gk), (210, .pure iU), (206, .pure nc)]
theorem QX : ∀ p ∈ LBu, nQ p.2 := by
 intro p hp
 simp only [LBu, mem_cons, not_mem_nil, or_false] at hp
 rcases hp with rfl | rfl | rfl
 ·exact Bh _ _ _ _
 ·exact CU
 ·exact LP
theorem LJ : aB (mkC prog G0 LBu) := Le
theorem pqP : PureOK prog G0 7 (cM [.str qS] (.tup [qV, .int .i64 134, .int .i64 0])) :=
 cv (fs := 7 :: fsC) (fz := [7]) (fuel := 400) (eo LJ) (bB := bbL LBu) (em QX) (by kernel_rfl) mixed 30 (r0 := .tup [qV, .int .i64 134, .int .i64 0]) (H0 := []) (by kernel_rfl) (by kernel_rfl) rfl
def yZ (g : Gra) (n : Nod) : Nat := twD (nrF g) n.id (nK ⟨nrF g⟩ n.id) / 2
def i7 (g : Gra) (i : Nat) : Nat := ((g.nodes.take i).map (yZ g)).sum
theorem xo (g : Gra) (i : Nat) : i7 g i <= xm g := by
 have h : xm g = ((g.nodes.take i ++ g.nodes.drop i).map (yZ g)).sum := by rw [List.take_append_drop]; rfl
 rw [h, map_append, List.sum_append]
 exact Nat.le_add_right _ _
theorem y6 {g : Gra} {i : Nat} (h : i < g.nodes.length) : i7 g (i + 1) = i7 g i + yZ g (ix g.nodes i) := by
 unfold i7
 rw [gK h, map_append, List.sum_append]
 simp
theorem B3 (g : Gra) : i7 g g.nodes.length = xm g := by
 unfold i7
 rw [take_length]
 rfl
theorem HK {g : Gra} {i : Nat} (h : i < g.nodes.length) : dq (dV g) i = [.int .i64 (ix g.nodes i).id, .int .i64 (yZ g (ix g.nodes i) : Nat)] := by
 unfold dq dV yZ
 rw [List.getD_eq_getElem?_getD, getElem?_eq_getElem (by rw [length_map]; exact h), getElem_map, bF h]
 rfl
def sPq : PSp := cM [.str qS] (.tup [qV, .int .i64 134, .int .i64 0])
theorem K6 : sPq [.str qS] = some (True, .tup [qV, .int .i64 134, .int .i64 0]) := iZ rfl
theorem Hf : Ee [] = some (True, .bool true) := iZ rfl
theorem Hn {g : Gra} (h : mG g) : Ex [aG g, qV] = some (True, .tup [.agg [.slice 1 false colE, .slice 1 false (aq (lC (hJ g)))], .int .i64 0]) := by
 have e : (Enc.dec (aG g) : Gra) = g := Enc.dec_enc g
 have hk : (bq (aG g) = aG (Enc.dec (aG g) : Gra) /\ qV = qV /\ mG (Enc.dec (aG g) : Gra)) := by
  rw [e]
  exact ⟨by simp [aG, bq], rfl, h⟩
 show some (_, _) = _
 rw [eq_true hk, e]
theorem Hr {g : Gra} (h1 : WfG g) (h2 : cB g = 0) (h3 : kX g) (b : Bool) : xd [aG g, .slice 1 b []] = some (True, .slice 2 false (dV g)) := by
 simp [xd, aW, aG, h1, h2, h3]
noncomputable def CTp : Ctx := mkC prog G0 [(4, .pure Ez), (5, .pure D9), (6, .pure Ee), (7, .pure sPq), (8, .pure Ex), (9, .pure xd)]
@[simp] theorem Vd : CTp.P = prog := rfl
@[simp] theorem Vc : CTp.G = G0 := rfl
@[simp] theorem Vb : CTp.S 4 = .pure Ez /\ CTp.S 5 = .pure D9 /\ CTp.S 6 = .pure Ee /\ CTp.S 7 = .pure sPq /\ CTp.S 8 = .pure Ex /\ CTp.S 9 = .pure xd := ⟨rfl, rfl, rfl, rfl, rfl, rfl⟩
theorem EO : aB CTp := aH (smG) func4 (aH (Rk) func5 (aH (Rs) func6 (aH (pqP) func7 (aH (Ow) func8 (aH (O3) func9 (ax _ _))))))
def Sy : PSp := aN (λ (g : Gra) => WfG g) (λ _ => .bool true)
def tpH (g : Gra) (c1 c2 : List AV) (R : List (List AV)) : List Blk := [gBx g, ⟨32, 1, [[.slice 21 false [c1, c2]]], true, true⟩, ⟨38, 2, [[.slice 1 false colE, .slice 1 false R]], true, true⟩]
theorem topP : PureOK prog G0 3 Sy := by
 refine jo EO mixed func3 rfl rfl rfl [] (by kernel_rfl) (by decide) (λ g hw => ?_)
 have hcn := Hf
 have hsm : Ez [aG g, .int .i64 6, .int .i64 8] = some (True, .bool (gk g 6 8)) := by simp [Ez, eV, aG, hw]
 have hch : D9 [aG g] = some (True, .int .i64 (cB g)) := by simp [D9, aN, aG, hw]
 rcases em2 (gk g 6 8 = true) with e1 | e1
 ·rcases em2 (cB g = 0) with e2 | e2
  ·have h1 := of_eq_true e1
   have h2 := of_eq_true e2
   have hs : g.nodes.length <= 6 /\ g.edges.length <= 8 := by
    simp only [gk, Bool.and_eq_true, decide_eq_true_eq] at h1
    omega
   obtain ⟨hmp, hnp⟩ := Gv hw h2 hs.1 hs.2
   have hrn := Hn hmp
   have htr := λ b => Hr hw h2 hnp b
   have hpq := K6
   have hln := GQ hnp
   have hlr : (lC (hJ g)).length <= 1000000 := by
    have hm := Dy hmp
    have hp : (lC (hJ g)).length <= (hJ g).length := by
     unfold lC xg
     rw [length_map]
     have hz : ∀ l : List IS, (cT cfS l).length = l.length := λ l => by unfold cT; rw [aZ]
     rw [hz, length_map]
     refine le_trans (Is _) ?_
     rw [(dh (l7 2) (λ _ _ => trivial)).1.length_eq, length_map]
     exact le_refl _
    exact le_trans hp hm.1
   obtain ⟨R, hR⟩ : ∃ R, lC (hJ g) = R := ⟨_, rfl⟩
   rw [hR] at hrn hln hlr
   obtain ⟨c1, hc1⟩ : ∃ c1, cl1 = c1 := ⟨_, rfl⟩
   obtain ⟨c2, hc2⟩ : ∃ c2, cl2 = c2 := ⟨_, rfl⟩
   rw [h1] at hsm
   rw [h2] at hch
   have hfl : (dV g).length = g.nodes.length := by simp [dV]
   simp only [aG, qV, hc1, hc2, qS] at hsm hch hrn htr hpq
   simp [ac, ag, ae, am, ap, aa, au, ab, ao, ak, ah, ai, aj, argsρ, hsm, hch, hpq, hrn, htr]
   rw [hfl]
   refine aA EO mixed [] (λ i : Nat => ⟨[(6, .ptr 2 1 2 0 0), (7, .int .i64 0), (8, .int .i64 (i7 g i)), (34, .slice 2 false (dV g)), (35, .int .i64 g.nodes.length), (36, .int .i64 i)], tpH g c1 c2 (aq R)⟩) (λ i => i <= g.nodes.length) (λ i => g.nodes.length - i) (by kernel_rfl) ⟨0, by omega, ar (by simp [i7])⟩ (λ i hi => ?_)
   have hb1 := xo g i
   by_cases hlt : i < g.nodes.length
   ·have i1 : I64 ((i : Int) + 1) := by unfold I64; omega
    have hst := y6 hlt
    have hb2 := xo g (i + 1)
    have i2 : I64 ((i7 g i : Int) + (yZ g (ix g.nodes i) : Nat)) := by unfold I64; omega
    have e3 : (i7 g i : Int) + (yZ g (ix g.nodes i) : Nat) = (i7 g (i + 1) : Nat) := by omega
    simp [ac, ag, ae, am, ap, aa, au, ab, ao, ak, ah, ai, aj, tpH, gBx, hlt, hfl, HK hlt, i1, i2]
    exact ⟨i + 1, by omega, by omega, bH 3 (by simp [e3]) (zero_le _) (by simp [AV.clean, AV.clean1]) (by simp) (by simp [tpH, gBx])⟩
   ·have hie : i = g.nodes.length := by omega
    subst hie
    have hall := B3 g
    have i3 : I64 (2 * (i7 g g.nodes.length : Int)) := by unfold I64; omega
    have e4 : ((R.length : Int) = 2 * (i7 g g.nodes.length : Int)) = True := eq_true (by omega)
    simp [ac, ag, ae, am, ap, aa, au, ab, ao, ak, ah, ai, aj, tpH, gBx, i3, e4, hcn]
  ·have h1 := of_eq_true e1
   rw [h1] at hsm
   simp only [aG] at hsm hch
   simp [ac, ag, ae, am, ap, aa, au, ab, ao, ak, ah, ai, aj, argsρ, hsm, hch, hcn, e2]
 ·have h1 : gk g 6 8 = false := by
   cases h : gk g 6 8
   ·rfl
   ·exact absurd h (of_eq_false e1)
  rw [h1] at hsm
  simp only [aG] at hsm hch
  simp [ac, ag, ae, am, ap, aa, au, ab, ao, ak, ah, ai, aj, argsρ, hsm, hcn]
open Go.RowKit Go.WideShapes Go.ChangeShapes
theorem gG : Reads prog 3 Int I64 := BB (by kernel_rfl)
theorem oG : Reads prog 9 ByteArray (λ s => s.size <= maxLen) := BF (by kernel_rfl)
theorem DP : Reads prog 35 (List ByteArray) (WfL λ s => s.size <= maxLen) := jp (by kernel_rfl) (by kernel_rfl) (of_decide_eq_true (by kernel_rfl)) oG
theorem Ff {H : Type} {enc : TypeId × Value -> H} {w : World} {held : Bool} {P : Program} {n : Nat} {t : TypeId} {cs : List Value} {x : DataW H × List MemPlace} (h : DataW.trod enc P w 0 (λ _ => true) held n t cs = some x) : ∃ m, n = m + 1 := by
 cases n with
 | zero => simp [DataW.trod] at h
 | succ n => exact ⟨n, rfl⟩
theorem BG : Reads prog 62 Val WfV := by
 intro n
 induction n using Nat.strongRecOn with
 | _ n ih =>
  intro H enc w held cs x hx
  obtain ⟨m, rfl, hl, hf⟩ := ft ⟨_, rfl⟩ hx
  obtain ⟨y0, t0⟩ := hf 0 0 3 (by kernel_rfl)
  obtain ⟨y1, t1⟩ := hf 1 1 3 (by kernel_rfl)
  obtain ⟨y2, t2⟩ := hf 2 2 3 (by kernel_rfl)
  obtain ⟨y3, t3⟩ := hf 3 3 9 (by kernel_rfl)
  obtain ⟨y4, t4⟩ := hf 4 4 60 (by kernel_rfl)
  obtain ⟨k, _, c0⟩ := gG m enc w held _ _ t0
  obtain ⟨nn, _, c1⟩ := gG m enc w held _ _ t1
  obtain ⟨d, _, c2⟩ := gG m enc w held _ _ t2
  obtain ⟨s, w3, c3⟩ := oG m enc w held _ _ t3
  obtain ⟨m', rfl⟩ := Ff t4
  obtain ⟨l, ⟨w4, w5⟩, c4⟩ := ma (e := 62) (by kernel_rfl) (by kernel_rfl) (of_decide_eq_true (by kernel_rfl)) (ih m' (by omega)) enc w held _ _ t4
  refine ⟨.mk k nn d s l, .mk _ _ _ _ _ w3 w4 w5, ?_⟩
  rw [fE]
  exact CellsD.split (o := 0) (s := 1) c0 (CellsD.split (s := 1) c1 (CellsD.split (s := 1) c2 (CellsD.split (s := 1) c3 (CellsD.split (s := 1) c4 (CellsD.last (by rw [hl, show szT prog 62 = 5 by kernel_rfl]; decide))))))
theorem BD : Reads prog 88 Prp WfP := λ n => by
 intro H enc w held cs x hx
 obtain ⟨m, rfl, hl, hf⟩ := ft ⟨_, rfl⟩ hx
 obtain ⟨y0, t0⟩ := hf 0 0 9 (by kernel_rfl)
 obtain ⟨y1, t1⟩ := hf 1 1 62 (by kernel_rfl)
 obtain ⟨a, wa, ca⟩ := oG m enc w held _ _ t0
 obtain ⟨b, wb, cb⟩ := BG m enc w held _ _ t1
 refine ⟨⟨a, b⟩, ⟨wa, wb⟩, ?_⟩
 have e : Enc.cells (Prp.mk a b) = Enc.cells a ++ (Enc.cells b ++ []) := by
  rw [rF, fE]
  rfl
 rw [e]
 exact CellsD.split (o := 0) (s := 1) ca (CellsD.split (s := 5) cb (CellsD.last (by rw [hl, show szT prog 88 = 6 by kernel_rfl]; decide)))
theorem pZ : Reads prog 46 (List Prp) (WfL WfP) := jp (by kernel_rfl) (by kernel_rfl) (of_decide_eq_true (by kernel_rfl)) BD
theorem BC : Reads prog 48 Nod WfN := λ n => by
 intro H enc w held cs x hx
 obtain ⟨m, rfl, hl, hf⟩ := ft ⟨_, rfl⟩ hx
 obtain ⟨y0, t0⟩ := hf 0 0 3 (by kernel_rfl)
 obtain ⟨y1, t1⟩ := hf 1 1 35 (by kernel_rfl)
 obtain ⟨y2, t2⟩ := hf 2 2 46 (by kernel_rfl)
 obtain ⟨a, _, ca⟩ := gG m enc w held _ _ t0
 obtain ⟨b, wb, cb⟩ := DP m enc w held _ _ t1
 obtain ⟨c, wc, cc⟩ := pZ m enc w held _ _ t2
 exact ⟨⟨a, b, c⟩, ⟨wb.1, wb.2, wc.1, wc.2⟩, CellsD.split (o := 0) (s := 1) ca (CellsD.split (s := 1) cb (CellsD.split (s := 1) cc (CellsD.last (by rw [hl, show szT prog 48 = 3 by kernel_rfl]; decide))))⟩
theorem BA : Reads prog 51 Edg WfE := λ n => by
 intro H enc w held cs x hx
 obtain ⟨m, rfl, hl, hf⟩ := ft ⟨_, rfl⟩ hx
 obtain ⟨y0, t0⟩ := hf 0 0 3 (by kernel_rfl)
 obtain ⟨y1, t1⟩ := hf 1 1 3 (by kernel_rfl)
 obtain ⟨y2, t2⟩ := hf 2 2 3 (by kernel_rfl)
 obtain ⟨y3, t3⟩ := hf 3 3 9 (by kernel_rfl)
 obtain ⟨y4, t4⟩ := hf 4 4 46 (by kernel_rfl)
 obtain ⟨a, _, ca⟩ := gG m enc w held _ _ t0
 obtain ⟨b, _, cb⟩ := gG m enc w held _ _ t1
 obtain ⟨c, _, cc⟩ := gG m enc w held _ _ t2
 obtain ⟨d, wd, cd⟩ := oG m enc w held _ _ t3
 obtain ⟨p, wp, cp⟩ := pZ m enc w held _ _ t4
 exact ⟨⟨a, b, c, d, p⟩, ⟨wd, wp.1, wp.2⟩, CellsD.split (o := 0) (s := 1) ca (CellsD.split (s := 1) cb (CellsD.split (s := 1) cc (CellsD.split (s := 1) cd (CellsD.split (s := 1) cp (CellsD.last (by rw [hl, show szT prog 51 = 5 by kernel_rfl]; decide))))))⟩
theorem reads_gra : Reads prog 25 Gra WfG := λ n => by
 intro H enc w held cs x hx
 obtain ⟨m, rfl, hl, hf⟩ := ft ⟨_, rfl⟩ hx
 obtain ⟨y0, t0⟩ := hf 0 0 22 (by kernel_rfl)
 obtain ⟨y1, t1⟩ := hf 1 1 23 (by kernel_rfl)
 obtain ⟨y2, t2⟩ := hf 2 2 3 (by kernel_rfl)
 obtain ⟨y3, t3⟩ := hf 3 3 3 (by kernel_rfl)
 obtain ⟨a, wa, ca⟩ := (jp (by kernel_rfl) (by kernel_rfl) (of_decide_eq_true (by kernel_rfl)) BC : Reads prog 22 (List Nod) (WfL WfN)) m enc w held _ _ t0
 obtain ⟨b, wb, cb⟩ := (jp (by kernel_rfl) (by kernel_rfl) (of_decide_eq_true (by kernel_rfl)) BA : Reads prog 23 (List Edg) (WfL WfE)) m enc w held _ _ t1
 obtain ⟨c, _, cc⟩ := gG m enc w held _ _ t2
 obtain ⟨d, _, cd⟩ := gG m enc w held _ _ t3
 exact ⟨⟨a, b, c, d⟩, ⟨wa.1, wa.2, wb.1, wb.2⟩, CellsD.split (o := 0) (s := 1) ca (CellsD.split (s := 1) cb (CellsD.split (s := 1) cc (CellsD.split (s := 1) cd (CellsD.last (by rw [hl, show szT prog 25 = 4 by kernel_rfl]; decide)))))⟩
abbrev Dt : List (String × DataW Unit) := [("graphdb/frac.zero", Rows.laid_graphdb_frac_zero)]
abbrev laidZ : List (String × DataW Unit) := Rows.topTrianglesRow.laid
theorem Fe {w : World} {n : Nat} {cs : List Value} {z : Int} {p : List MemPlace} (h : DataW.trod (λ _ => ()) prog w 0 (λ _ => true) false n 3 cs = some (.lit (.int .i64 z), p)) : cs = [.int .i64 z] := by
 cases n with
 | zero => simp [DataW.trod] at h
 | succ n =>
  unfold DataW.trod at h
  have hu : prog.underlying 3 = some (.int .i64) := by kernel_rfl
  rw [hu] at h
  split at h <;> simp_all
theorem Gl {W : World} (h : laidMetH prog Dt W) : RepD W (λ _ => False) (.pointer (some ⟨0, 0, none⟩)) (G0 0) := by
 rw [MakeChecks.laidMetH_plain _ _ _ (by kernel_rfl)] at h
 obtain ⟨ps, ⟨g0, t0, cs0, f0, p0, q0, hg, ht, hv, hd, _, _⟩, _, _⟩ := h
 have hgt : prog.globalNamed "graphdb/frac.zero" = some 0 := by kernel_rfl
 have htt : (prog.globals[0]?).map (·.type) = some 322 := by kernel_rfl
 obtain rfl := Option.some.inj (hgt.symm.trans hg)
 obtain rfl := Option.some.inj (htt.symm.trans ht)
 obtain ⟨y0, y1, m, hda, hl, k0, k1⟩   := ChangeShapes.trod_struct2 (P := prog) (t := 322) Tryz.underlying322 hd
 have hl : cs0.toList.length = 2 := hl
 have k0 : DataW.trod (λ _ => ()) prog W 0 (λ _ => true) false m 3 ((cs0.toList.drop 0).take 1) = some y0 := k0
 have k1 : DataW.trod (λ _ => ()) prog W 0 (λ _ => true) false m 3 ((cs0.toList.drop 1).take 1) = some y1 := k1
 have e : (DataW.lit (Lit.int .i64 0) : DataW Unit) = y0.1 /\ (DataW.lit (Lit.int .i64 1) : DataW Unit) = y1.1 := by
  have := congrArg Prod.fst hda
  simp only [Rows.laid_graphdb_frac_zero, DataW.agg.injEq, List.cons.injEq, and_true] at this
  exact this
 obtain ⟨a0, b0⟩ := y0
 obtain ⟨a1, b1⟩ := y1
 obtain ⟨rfl, rfl⟩ := e
 have c0 := Fe k0
 have c1 := Fe k1
 have hcs : cs0.toList = [.int .i64 0, .int .i64 1] := by
  match hc : cs0.toList with
  | [x, y] => rw [hc] at c0 c1; simp at c0 c1; rw [c0, c1]
  | [] => rw [hc] at hl; simp at hl
  | [_] => rw [hc] at hl; simp at hl
  | _ :: _ :: _ :: _ => rw [hc] at hl; simp at hl
 show RepD W (λ _ => False) (.pointer (some ⟨0, 0, none⟩)) (.iptr [.int .i64 0, .int .i64 1])
 unfold World.var? at hv
 rw [hgt] at hv
 simp only [Option.bind_some] at hv
 split at hv
 ·rename_i cs t fr hb
  injection hv with hv
  subst hv
  have hcell : ∀ j, W.cell? ⟨0, 0 + j, none⟩ = cs.toList[j]? := λ j => by
   unfold World.cell?
   simp [hb]
  refine .iptr 0 0 _ (λ j => if j = 0 then .int .i64 0 else .int .i64 1) (by have := (Array.getElem?_eq_some_iff.1 hb).1; exact this) id (λ j hj => ?_) (λ j v hj => ?_)
  ·have hj : j < 2 := hj
   rw [hcell, hcs]
   match j, hj with
   | 0, _ => exact ⟨rfl, rfl⟩
   | 1, _ => exact ⟨rfl, rfl⟩
  ·match j, hj with
   | 0, hj => simp at hj; rw [<- hj]; exact .int _ _
   | 1, hj => simp at hj; rw [<- hj]; exact .int _ _
   | j + 2, hj => simp at hj
 ·cases hv
theorem JU {W : World} (h : W.ShapedOpen prog) : ∃ m, W.cell? ⟨1, 0, none⟩ = some (.int .i64 m) :=
 cell_of_shapedOpen_int (g := 1) (t := 3) (zero := #[.int .i64 0]) h (of_decide_eq_true (by kernel_rfl)) (by kernel_rfl) rfl (by kernel_rfl) (by kernel_rfl) (by kernel_rfl)
theorem hG_of_laid {W : World} (h : laidMetH prog laidZ W) (hs : W.ShapedOpen prog) : ∀ g, GV prog W (λ _ => False) g (G0 g) := by
 have h1 : laidMetH prog (laidZ.filter λ x => x.1 == "graphdb/frac.zero") W := h.filter _
 have e : (laidZ.filter λ x => x.1 == "graphdb/frac.zero") = Dt := by rfl
 rw [e] at h1
 intro g
 by_cases h0 : g = 0
 ·subst h0
  exact GV.of_rep (Gl h1)
 by_cases h2 : g = 1
 ·subst h2
  exact ⟨JU hs, id⟩
 ·have : G0 g = .undef := by unfold G0; rw [if_neg h0, if_neg h2]
  rw [this]
  exact GV.of_rep (.undef _)
theorem callsG1 {P : Program} {G : Nat -> AV} {f : FuncId} {w : World} (hG : ∀ g, GV P w (λ _ => False) g (G g)) {α : Type} [Enc α] {pre : α -> Prop} {b : Bool} (h : PureOK P G f (aN pre λ _ => .bool b)) {v0 : Value} {a0 : α} (r0 : RepD w (λ _ => False) v0 (Enc.enc a0)) (n0 : bq (Enc.enc a0) = Enc.enc a0) (hp : pre a0) :
  Calls P f #[v0] w λ e w' => e = .returned (.bool b) /\ Below w.heap.size w w' :=
 pv h (avs := [Enc.enc a0]) (ob := bq (Enc.enc a0) = Enc.enc a0 /\ pre a0) hG (Rb r0) rfl (by simp only [aN, Enc.dec_enc]) ⟨n0, hp⟩
theorem handed_both {H : Type} {enc : TypeId × Value -> H} {a : Assume} {C : Checked} {os : Os} {f : FuncId} {fn : Func} {s : ChangeSpec} {conds : List PathCond} {apart fresh handsOn again : Bool} {X : World -> Array Value -> Prop}
  (hX : ∀ (w w' : World) (args : Array Value), w.heap = w'.heap -> X w args -> X w' args)
  (own : ownKnob C.prog.godebug = none) (started : os.Started) (noInit : C.prog.inits.idxOf? f = none) (hfn : C.prog.funcs[f]? = some fn)
  (witness : ∃ (w : World) (tape : Tape) (i : Input), w.os = os /\ (w.forCall tape i).Shaped C.prog /\ i.vars = [] /\ Input.okWide C.prog (w.forCall tape i) .any w.heap.size f i /\
   ((s.pre enc C.prog fn conds apart (w.forCall tape i).memory i.args /\ X (w.forCall tape i).memory i.args) /\ sizedMet enc C.prog fn (OpenSpec.ofChange s) apart (w.forCall tape i).memory i.args) /\ a.holds C.prog (lone (Frame.enter C.prog f i.args .normal) [] (w.forCall tape i)))
  (contract : ∀ (W : World) (base : Nat) (args : Array Value) (ds gs : List (DataW H)) (before : List MemPlace),
   (∀ (j : Nat) t v, fn.params[j]? = some t -> args[j]? = some v -> Value.okWide C.prog W .any base t v) ->
   DataW.Whole enc C.prog fn.params.toList s.vars apart W args.toList ds gs before -> W.ShapedOpen C.prog -> X W args ->
   Calls C.prog f args W λ e W' => ∃ v, e = .returned v /\ s.post enc C.prog fn apart fresh handsOn again W args v W') :
  ReturnsInHanded a C os f .any (λ w args => (s.pre enc C.prog fn conds apart w args /\ X w args) /\ sizedMet enc C.prog fn (OpenSpec.ofChange s) apart w args) (s.post enc C.prog fn apart fresh handsOn again) := by
 refine returnsInHanded_of_calls own started noInit witness ?_
 intro w tape i _ hsh _ hok hpre _
 obtain ⟨_, _, _, fn', hfn', _, _, _, _, hval⟩ := hok
 obtain rfl := Option.some.inj (hfn'.symm.trans hfn)
 obtain ⟨⟨⟨ds, gs, before, hw, _⟩, hx⟩, _⟩ := hpre
 refine (contract (w.forCall tape i) w.heap.size i.args ds gs before hval (DataW.Whole.of_heap (by rfl) hw) hsh (hX _ _ _ (by rfl) hx)).mono λ e W' ⟨v, he, hp⟩ => ?_
 subst he
 exact ChangeSpec.post_blind hp
end
end Go.Proofs.YtnbcneiicnepcaaGreatDoor