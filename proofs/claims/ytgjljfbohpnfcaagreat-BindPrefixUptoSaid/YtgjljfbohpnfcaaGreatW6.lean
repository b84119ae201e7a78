/-
  Texts joined: B17 B18 P4 R1 B19 B20 B21 SR SE SQ B22 Shape R2 R3 R4 U1 C1 C2 C3 C3E C4 C5 C6 R5 R6 C7 C8 C9 SU B23.
-/
import Derived.Test.YtgjljfbohpnfcaaGreatW5
import Derived.Test.YtgjljfbohpnfcaaGreatW3
import Derived.Test.YtgjljfbohpnfcaaGreatRows
import Derived.Test.YtgjljfbohpnfcaaGreatW4
import Derived.Shelf.Vars
import Derived.JoinedCond
import Derived.SizedLaws

/-
  layer 21: the chapter's examples hold.
-/
namespace Go.Proofs.YtgjljfbohpnfcaaGreat
open Go.RowKit
set_option linter.unusedSimpArgs false
set_option linter.unusedVariables false
set_option maxRecDepth 100000

def tE (op k n : Int) (name : ByteArray) (kids : List (List AV)) : List AV := [.int .i64 op, .int .i64 k, .int .i64 n, .int .i64 0, .str ByteArray.empty, .slice 5 true [], .str name, .bool false, .slice 9 true kids]
def tC (k s l : Int) (items : List (List AV)) : List AV := [.int .i64 k, .bool false, .bool false, .slice 3 true [], .slice 9 true []] ++ tE 0 0 0 ByteArray.empty [] ++ [.str ByteArray.empty, .slice 10 true items, .slice 10 true [], .int .i64 s, .int .i64 l, .slice 13 true [], .slice 1 true []]
def Mq1 : AV := .iptr (tE 2 0 0 ⟨#[97]⟩ [])
def Mq2 : AV := .iptr (tE 24 0 0 ⟨#[99, 111, 117, 110, 116]⟩ [])
def Mq3 : AV := .iptr (tE 1 2 1 ByteArray.empty [])
def Mq4 : AV := .iptr (Enc.cells cM)
def Mq5 : AV := .iptr (Enc.cells cAgain)
def Mq6 : AV := .iptr (Enc.cells cLate)
def Mq7 : AV := .iptr (tC 4 (-1) (-1) [Enc.cells (Item.mk eA ⟨#[120]⟩), Enc.cells (Item.mk eCount ⟨#[110]⟩)])
def Mq8 : AV := .iptr (tC 4 0 0 [Enc.cells (Item.mk eSum ⟨#[110]⟩)])
theorem m0 {n : Nat} (h : n ≤ 1000) : n ≤ maxLen := by unfold maxLen; omega
theorem we0 : WfE e0 := wfE0 _ _ _ (by decide)
theorem weA : WfE eA := wfE0 _ _ _ (by decide)
theorem weCount : WfE eCount := wfE0 _ _ _ (by decide)
theorem weOne : WfE eOne := .mk _ _ _ _ _ (.mk _ _ _ _ _ (Nat.zero_le _) (Nat.zero_le _) (by simp)) (m0 (by decide)) (Nat.zero_le _) (by simp)
theorem weSum : WfE eSum := .mk _ _ _ _ _ wfV0 (m0 (by decide)) (m0 (by decide)) (by simpa using ⟨weOne, weCount⟩)
theorem weProp : WfE eProp := wfE1 _ _ _ _ (by decide) weA
theorem weUse : WfE (Expr.mk 7 v0 ByteArray.empty false [Expr.mk 2 v0 ⟨#[98]⟩ false [], eA]) := .mk _ _ _ _ _ wfV0 (m0 (by decide)) (m0 (by decide)) (by simpa using ⟨wfE0 _ _ _ (by decide), weA⟩)
theorem gq1 : GoodQ (Query.mk [cM, cRet]) := by
  have z1 : (1 : Nat) ≤ maxLen := m0 (by decide)
  have z2 : (2 : Nat) ≤ maxLen := m0 (by decide)
  have z3 : (3 : Nat) ≤ maxLen := m0 (by decide)
  have z4 : ByteArray.empty.size ≤ maxLen := m0 (by decide)
  have z5 : ∀ c : UInt8, (⟨#[c]⟩ : ByteArray).size ≤ maxLen := fun c => m0 (show 1 ≤ 1000 by decide)
  simp [GoodQ, WfQy, WfC, WfP, WfN, WfG, WfQ, edgeN, GoodC, GoodP, GoodPr, GoodEs, GoodE, namesE, namesL, we0, weA, weCount, weOne, weSum, weProp, z1, z2, z3, z4, z5]
theorem gq3 : GoodQ (Query.mk [cM, cAgain, cRet]) := by
  have z1 : (1 : Nat) ≤ maxLen := m0 (by decide)
  have z2 : (2 : Nat) ≤ maxLen := m0 (by decide)
  have z3 : (3 : Nat) ≤ maxLen := m0 (by decide)
  have z4 : ByteArray.empty.size ≤ maxLen := m0 (by decide)
  have z5 : ∀ c : UInt8, (⟨#[c]⟩ : ByteArray).size ≤ maxLen := fun c => m0 (show 1 ≤ 1000 by decide)
  simp [GoodQ, WfQy, WfC, WfP, WfN, WfG, WfQ, edgeN, GoodC, GoodP, GoodPr, GoodEs, GoodE, namesE, namesL, we0, weA, weCount, weOne, weSum, weProp, z1, z2, z3, z4, z5]
theorem gq5 : GoodQ (Query.mk [cM, cSum]) := by
  have z1 : (1 : Nat) ≤ maxLen := m0 (by decide)
  have z2 : (2 : Nat) ≤ maxLen := m0 (by decide)
  have z3 : (3 : Nat) ≤ maxLen := m0 (by decide)
  have z4 : ByteArray.empty.size ≤ maxLen := m0 (by decide)
  have z5 : ∀ c : UInt8, (⟨#[c]⟩ : ByteArray).size ≤ maxLen := fun c => m0 (show 1 ≤ 1000 by decide)
  simp [GoodQ, WfQy, WfC, WfP, WfN, WfG, WfQ, edgeN, GoodC, GoodP, GoodPr, GoodEs, GoodE, namesE, namesL, we0, weA, weCount, weOne, weSum, weProp, z1, z2, z3, z4, z5]
theorem gq6 : GoodQ (Query.mk [cLate, cRet]) := by
  have z1 : (1 : Nat) ≤ maxLen := m0 (by decide)
  have z2 : (2 : Nat) ≤ maxLen := m0 (by decide)
  have z3 : (3 : Nat) ≤ maxLen := m0 (by decide)
  have z4 : ByteArray.empty.size ≤ maxLen := m0 (by decide)
  have z5 : ∀ c : UInt8, (⟨#[c]⟩ : ByteArray).size ≤ maxLen := fun c => m0 (show 1 ≤ 1000 by decide)
  simp [GoodQ, WfQy, WfC, WfP, WfN, WfG, WfQ, edgeN, GoodC, GoodP, GoodPr, GoodEs, GoodE, namesE, namesL, we0, weA, weCount, weOne, weSum, weProp, z1, z2, z3, z4, z5]
section
variable {m : Int}
def sMatch : List AV → Option (Prop × AV) := spec1 (fun (_ : PathPat) => True) (fun p => Enc.enc (Clause.mk 1 false false [p] [] e0 ByteArray.empty [] [] (-1) (-1) [] []))
theorem matchP : PureOK Tryz.prog (G m) 24 sMatch := by
  refine pure1 (C := C0 m) (sigC0 m) (mixC0 m) Tryz.func24 rfl rfl rfl (by kernel_rfl) (by decide) (fun p _ => ?_)
  simp
def sMatchN : List AV → Option (Prop × AV) := fun avs => sMatch (avs.map nrm2)
theorem matchN : PureOK Tryz.prog (G m) 24 sMatchN := pure_nrm2 matchP
noncomputable def CLb (m : Int) : Ctx := mkC Tryz.prog (G m) [(24, .frz sMatchN), (11, .pure sScope), (14, .pure sCheckQ), (18, .pure sUses), (13, .pure sSame), (16, .pure sTexts)]
@[simp] theorem CLb_P (m : Int) : (CLb m).P = Tryz.prog := rfl
@[simp] theorem CLb_G (m : Int) : (CLb m).G = (G m) := rfl
@[simp] theorem CLb_1 (m : Int) : (CLb m).S 24 = .frz sMatchN := rfl
@[simp] theorem CLb_2 (m : Int) : (CLb m).S 11 = .pure sScope := rfl
@[simp] theorem CLb_3 (m : Int) : (CLb m).S 14 = .pure sCheckQ := rfl
@[simp] theorem CLb_4 (m : Int) : (CLb m).S 18 = .pure sUses := rfl
@[simp] theorem CLb_5 (m : Int) : (CLb m).S 13 = .pure sSame := rfl
@[simp] theorem CLb_6 (m : Int) : (CLb m).S 16 = .pure sTexts := rfl
theorem mixCLb (m : Int) : (CLb m).P.follows .mixedOrders = true := mixed
theorem sigCLb (m : Int) : SigOK (CLb m) := sigOK_cons (entryFrz (matchN) Tryz.func24 rfl (by decide)) (sigOK_cons (entryPure (scopeP) Tryz.func11 rfl (by decide)) (sigOK_cons (entryPure (checkQP) Tryz.func14 rfl (by decide)) (sigOK_cons (entryPure (usesP) Tryz.func18 rfl (by decide)) (sigOK_cons (entryPure (sameR) Tryz.func13 rfl (by decide)) (sigOK_cons (entryPure (textsR) Tryz.func16 rfl (by decide)) (sigOK_nil _ _))))))
set_option maxHeartbeats 16000000 in
theorem livesB : PureOK Tryz.prog (G m) 10 (spec0 (.bool true)) := by
  refine pure0W (C := CLb m) Tryz.func10 rfl rfl rfl ?_
  refine AW_seq (avc_sound (sigCLb m) (mixCLb m) _ (by kernel_rfl) ?_)
  simp
  refine AW_seq (avc_sound (sigCLb m) (mixCLb m) _ (by kernel_rfl) ?_)
  simp [tE, tC, sMatch, sMatchN, nrm1, nrm2, dec_lit]
  refine AW.weak ((weak_view 1).trans (wk0 (ρ' := [(1, Mq1)]) (by simp [Mq1, tE, tC]) rfl (by simp [Mq1, tE, tC, AV.clean, AV.clean1]))) ?_
  refine AW_seq (avc_sound (sigCLb m) (mixCLb m) _ (by kernel_rfl) ?_)
  simp [Mq1, tE, tC, sMatch, sMatchN, nrm1, nrm2, dec_lit]
  refine AW.weak ((weak_view 2).trans (wk0 (ρ' := [(1, Mq1), (2, Mq2)]) (by simp [Mq1, Mq2, tE, tC]) rfl (by simp [Mq1, Mq2, tE, tC, AV.clean, AV.clean1]))) ?_
  refine AW_seq (avc_sound (sigCLb m) (mixCLb m) _ (by kernel_rfl) ?_)
  simp [Mq1, Mq2, tE, tC, sMatch, sMatchN, nrm1, nrm2, dec_lit]
  refine AW.weak ((weak_view 3).trans (wk0 (ρ' := [(1, Mq1), (2, Mq2), (3, Mq3)]) (by simp [Mq1, Mq2, Mq3, tE, tC]) rfl (by simp [Mq1, Mq2, Mq3, tE, tC, AV.clean, AV.clean1]))) ?_
  refine AW_seq (avc_sound (sigCLb m) (mixCLb m) _ (by kernel_rfl) ?_)
  simp [Mq1, Mq2, Mq3, tE, tC, sMatch, sMatchN, nrm1, nrm2, dec_lit]
  refine AW.weak ((weak_view 4).trans (wk0 (ρ' := [(1, Mq1), (2, Mq2), (3, Mq3), (4, Mq4)]) (by simp [Mq1, Mq2, Mq3, Mq4, tE, tC]) rfl (by simp [Mq1, Mq2, Mq3, Mq4, tE, tC, AV.clean, AV.clean1]))) ?_
  refine AW_seq (avc_sound (sigCLb m) (mixCLb m) _ (by kernel_rfl) ?_)
  simp [Mq1, Mq2, Mq3, Mq4, tE, tC, sMatch, sMatchN, nrm1, nrm2, dec_lit]
  refine AW.weak ((weak_view 5).trans (wk0 (ρ' := [(1, Mq1), (2, Mq2), (3, Mq3), (4, Mq4), (5, Mq5)]) (by simp [Mq1, Mq2, Mq3, Mq4, Mq5, tE, tC]) rfl (by simp [Mq1, Mq2, Mq3, Mq4, Mq5, tE, tC, AV.clean, AV.clean1]))) ?_
  refine AW_seq (avc_sound (sigCLb m) (mixCLb m) _ (by kernel_rfl) ?_)
  simp [Mq1, Mq2, Mq3, Mq4, Mq5, tE, tC, sMatch, sMatchN, nrm1, nrm2, dec_lit]
  refine AW.weak ((weak_view 6).trans (wk0 (ρ' := [(1, Mq1), (2, Mq2), (3, Mq3), (4, Mq4), (5, Mq5), (6, Mq6)]) (by simp [Mq1, Mq2, Mq3, Mq4, Mq5, Mq6, tE, tC]) rfl (by simp [Mq1, Mq2, Mq3, Mq4, Mq5, Mq6, tE, tC, AV.clean, AV.clean1]))) ?_
  refine AW_seq (avc_sound (sigCLb m) (mixCLb m) _ (by kernel_rfl) ?_)
  simp [Mq1, Mq2, Mq3, Mq4, Mq5, Mq6, tE, tC, sMatch, sMatchN, nrm1, nrm2, dec_lit]
  refine AW.weak ((weak_view 7).trans (wk0 (ρ' := [(1, Mq1), (2, Mq2), (3, Mq3), (4, Mq4), (5, Mq5), (6, Mq6), (7, Mq7)]) (by simp [Mq1, Mq2, Mq3, Mq4, Mq5, Mq6, Mq7, tE, tC]) rfl (by simp [Mq1, Mq2, Mq3, Mq4, Mq5, Mq6, Mq7, tE, tC, AV.clean, AV.clean1]))) ?_
  refine AW_seq (avc_sound (sigCLb m) (mixCLb m) _ (by kernel_rfl) ?_)
  simp [Mq1, Mq2, Mq3, Mq4, Mq5, Mq6, Mq7, tE, tC, sMatch, sMatchN, nrm1, nrm2, dec_lit]
  refine AW.weak ((weak_view 8).trans (wk0 (ρ' := [(1, Mq1), (2, Mq2), (3, Mq3), (4, Mq4), (5, Mq5), (6, Mq6), (7, Mq7), (8, Mq8)]) (by simp [Mq1, Mq2, Mq3, Mq4, Mq5, Mq6, Mq7, Mq8, tE, tC]) rfl (by simp [Mq1, Mq2, Mq3, Mq4, Mq5, Mq6, Mq7, Mq8, tE, tC, AV.clean, AV.clean1]))) ?_
  refine AW_seq (avc_sound (sigCLb m) (mixCLb m) _ (by kernel_rfl) ?_)
  simp [Mq4, Mq7, tE, tC, dec_lit, sScope, triA, y1, gq1]
  refine AW.weak (wk0 (ρ' := [(1, Mq1), (2, Mq2), (3, Mq3), (4, Mq4), (5, Mq5), (6, Mq6), (7, Mq7), (8, Mq8), (9, Enc.enc [Cnt.mk ⟨#[97]⟩ 1, Cnt.mk ⟨#[101]⟩ 2, Cnt.mk ⟨#[98]⟩ 1]), (11, .int .i64 0)]) (by simp [Mq1, Mq2, Mq3, Mq4, Mq5, Mq6, Mq7, Mq8, tE, tC]) rfl (by simp [Mq1, Mq2, Mq3, Mq4, Mq5, Mq6, Mq7, Mq8, tE, tC, AV.clean, AV.clean1])) ?_
  refine AW_seq (avc_sound (sigCLb m) (mixCLb m) _ (by kernel_rfl) ?_)
  simp [Mq4, Mq7, tE, tC, dec_lit, sScope, triA, y2, gq1]
  refine AW.weak (wk0 (ρ' := [(1, Mq1), (2, Mq2), (3, Mq3), (4, Mq4), (5, Mq5), (6, Mq6), (7, Mq7), (8, Mq8), (9, Enc.enc [Cnt.mk ⟨#[97]⟩ 1, Cnt.mk ⟨#[101]⟩ 2, Cnt.mk ⟨#[98]⟩ 1]), (11, .int .i64 0), (12, Enc.enc [Cnt.mk ⟨#[120]⟩ 1, Cnt.mk ⟨#[110]⟩ 4]), (14, .int .i64 0)]) (by simp [Mq1, Mq2, Mq3, Mq4, Mq5, Mq6, Mq7, Mq8, tE, tC]) rfl (by simp [Mq1, Mq2, Mq3, Mq4, Mq5, Mq6, Mq7, Mq8, tE, tC, AV.clean, AV.clean1])) ?_
  refine AW_seq (avc_sound (sigCLb m) (mixCLb m) _ (by kernel_rfl) ?_)
  simp [Mq4, Mq5, Mq7, tE, tC, dec_lit, sCheckQ, triS, y3, gq3]
  refine AW.weak (wk0 (ρ' := [(1, Mq1), (2, Mq2), (3, Mq3), (4, Mq4), (5, Mq5), (6, Mq6), (7, Mq7), (8, Mq8), (9, Enc.enc [Cnt.mk ⟨#[97]⟩ 1, Cnt.mk ⟨#[101]⟩ 2, Cnt.mk ⟨#[98]⟩ 1]), (11, .int .i64 0), (12, Enc.enc [Cnt.mk ⟨#[120]⟩ 1, Cnt.mk ⟨#[110]⟩ 4]), (14, .int .i64 0), (16, .int .i64 1), (17, .int .i64 8)]) (by simp [Mq1, Mq2, Mq3, Mq4, Mq5, Mq6, Mq7, Mq8, tE, tC]) rfl (by simp [Mq1, Mq2, Mq3, Mq4, Mq5, Mq6, Mq7, Mq8, tE, tC, AV.clean, AV.clean1])) ?_
  refine AW_seq (avc_sound (sigCLb m) (mixCLb m) _ (by kernel_rfl) ?_)
  simp [Mq4, Mq7, tE, tC, dec_lit, sCheckQ, triS, y4, gq1]
  refine AW.weak (wk0 (ρ' := [(1, Mq1), (2, Mq2), (3, Mq3), (4, Mq4), (5, Mq5), (6, Mq6), (7, Mq7), (8, Mq8), (9, Enc.enc [Cnt.mk ⟨#[97]⟩ 1, Cnt.mk ⟨#[101]⟩ 2, Cnt.mk ⟨#[98]⟩ 1]), (11, .int .i64 0), (12, Enc.enc [Cnt.mk ⟨#[120]⟩ 1, Cnt.mk ⟨#[110]⟩ 4]), (14, .int .i64 0), (16, .int .i64 1), (17, .int .i64 8), (18, Enc.enc [(⟨#[120]⟩ : ByteArray), ⟨#[110]⟩]), (20, .int .i64 0)]) (by simp [Mq1, Mq2, Mq3, Mq4, Mq5, Mq6, Mq7, Mq8, tE, tC]) rfl (by simp [Mq1, Mq2, Mq3, Mq4, Mq5, Mq6, Mq7, Mq8, tE, tC, AV.clean, AV.clean1])) ?_
  refine AW_seq (avc_sound (sigCLb m) (mixCLb m) _ (by kernel_rfl) ?_)
  simp [Mq4, Mq8, tE, tC, dec_lit, sCheckQ, triS, y5, gq5]
  refine AW.weak (wk0 (ρ' := [(1, Mq1), (2, Mq2), (3, Mq3), (4, Mq4), (5, Mq5), (6, Mq6), (7, Mq7), (8, Mq8), (9, Enc.enc [Cnt.mk ⟨#[97]⟩ 1, Cnt.mk ⟨#[101]⟩ 2, Cnt.mk ⟨#[98]⟩ 1]), (11, .int .i64 0), (12, Enc.enc [Cnt.mk ⟨#[120]⟩ 1, Cnt.mk ⟨#[110]⟩ 4]), (14, .int .i64 0), (16, .int .i64 1), (17, .int .i64 8), (18, Enc.enc [(⟨#[120]⟩ : ByteArray), ⟨#[110]⟩]), (20, .int .i64 0), (22, .int .i64 1), (23, .int .i64 9)]) (by simp [Mq1, Mq2, Mq3, Mq4, Mq5, Mq6, Mq7, Mq8, tE, tC]) rfl (by simp [Mq1, Mq2, Mq3, Mq4, Mq5, Mq6, Mq7, Mq8, tE, tC, AV.clean, AV.clean1])) ?_
  refine AW_seq (avc_sound (sigCLb m) (mixCLb m) _ (by kernel_rfl) ?_)
  simp [Mq6, Mq7, tE, tC, dec_lit, sCheckQ, triS, y6, gq6]
  refine AW.weak (wk0 (ρ' := [(1, Mq1), (2, Mq2), (3, Mq3), (4, Mq4), (5, Mq5), (6, Mq6), (7, Mq7), (8, Mq8), (9, Enc.enc [Cnt.mk ⟨#[97]⟩ 1, Cnt.mk ⟨#[101]⟩ 2, Cnt.mk ⟨#[98]⟩ 1]), (11, .int .i64 0), (12, Enc.enc [Cnt.mk ⟨#[120]⟩ 1, Cnt.mk ⟨#[110]⟩ 4]), (14, .int .i64 0), (16, .int .i64 1), (17, .int .i64 8), (18, Enc.enc [(⟨#[120]⟩ : ByteArray), ⟨#[110]⟩]), (20, .int .i64 0), (22, .int .i64 1), (23, .int .i64 9), (25, .int .i64 0), (26, .int .i64 6)]) (by simp [Mq1, Mq2, Mq3, Mq4, Mq5, Mq6, Mq7, Mq8, tE, tC]) rfl (by simp [Mq1, Mq2, Mq3, Mq4, Mq5, Mq6, Mq7, Mq8, tE, tC, AV.clean, AV.clean1])) ?_
  refine avc_sound (sigCLb m) (mixCLb m) _ (by kernel_rfl) ?_
  simp [Mq1, tE, dec_lit, sSame, sTexts, sUses, y7, weUse, namesE, namesL]
end
end Go.Proofs.YtgjljfbohpnfcaaGreat


/-
  layer 21: the law of uses.
-/
namespace Go.Proofs.YtgjljfbohpnfcaaGreat
open Go.RowKit
set_option linter.unusedSimpArgs false
set_option linter.unusedVariables false
set_option maxRecDepth 100000

section
variable {m : Int}
def sLivesB : List AV → Option (Prop × AV) := spec0 (.bool true)
def sSizeB : List AV → Option (Prop × AV) := spec1 (fun (e : Expr) => WfE e) (fun e => .int .i64 (sizeE e))
noncomputable def CLu (m : Int) : Ctx := mkC Tryz.prog (G m) [(17, .pure sSizeB), (10, .pure sLivesB), (18, .pure sUses), (19, .pure sUsesR), (16, .pure sTexts), (20, .pure sUnion)]
@[simp] theorem CLu_P (m : Int) : (CLu m).P = Tryz.prog := rfl
@[simp] theorem CLu_G (m : Int) : (CLu m).G = (G m) := rfl
@[simp] theorem CLu_1 (m : Int) : (CLu m).S 17 = .pure sSizeB := rfl
@[simp] theorem CLu_2 (m : Int) : (CLu m).S 10 = .pure sLivesB := rfl
@[simp] theorem CLu_3 (m : Int) : (CLu m).S 18 = .pure sUses := rfl
@[simp] theorem CLu_4 (m : Int) : (CLu m).S 19 = .pure sUsesR := rfl
@[simp] theorem CLu_5 (m : Int) : (CLu m).S 16 = .pure sTexts := rfl
@[simp] theorem CLu_6 (m : Int) : (CLu m).S 20 = .pure sUnion := rfl
theorem mixCLu (m : Int) : (CLu m).P.follows .mixedOrders = true := mixed
theorem sigCLu (m : Int) : SigOK (CLu m) := sigOK_cons (entryPure (sizeR_) Tryz.func17 rfl (by decide)) (sigOK_cons (entryPure (livesB) Tryz.func10 rfl (by decide)) (sigOK_cons (entryPure (usesP) Tryz.func18 rfl (by decide)) (sigOK_cons (entryPure (usesR) Tryz.func19 rfl (by decide)) (sigOK_cons (entryPure (textsR) Tryz.func16 rfl (by decide)) (sigOK_cons (entryPure (unionR) Tryz.func20 rfl (by decide)) (sigOK_nil _ _))))))
set_option maxHeartbeats 8000000 in
theorem lawUses : PureOK Tryz.prog (G m) 5 (spec1 (fun (e : Expr) => WfE e ∧ (namesE e).length ≤ 1000000000) (fun _ => .bool true)) := by
  refine pureH1 (C := CLu m) (sigCLu m) (mixCLu m) Tryz.func5 rfl rfl rfl [] (by kernel_rfl) (by decide) (fun e ⟨hw, hc⟩ => ?_)
  have hl := hw.len'
  have c1 : (namesE e).length ≤ 1000000000000 := by omega
  have c2 : (namesE e).length ≤ 10000000000 := by omega
  have hul : (usesF e).length ≤ 1000000000000 := by have := uses_len e; omega
  have hul2 : (usesF e).length ≤ 10000000000 := by have := uses_len e; omega
  by_cases hs : (3000 : Int) < sizeE e
  · simp [sSizeB, sLivesB, hw, hs]
  obtain ⟨r, hr⟩ : ∃ r, usesF e = r := ⟨_, rfl⟩
  have hk := kidsU_eq e
  rw [hr] at hk hul hul2
  obtain ⟨a0, ha0⟩ : ∃ a0, (if e.op = 2 then [e.name] else []) = a0 := ⟨_, rfl⟩
  have hal : a0.length + (namesL e.kids).length ≤ 1000000000 := by
    rw [← ha0, ← List.length_append, ← namesE_eq]; exact hc
  rw [ha0] at hk
  rcases em2 (e.op = 2) with h2 | h2
  case' inl =>
    rw [if_pos (of_eq_true h2)] at ha0
    simp [sSizeB, sLivesB, sUses, sUsesR, sTexts, hw, hs, c1, c2, hr, hul, h2]
    refine AW.weak (weak_view 4) ?_
    simp
  case' inr =>
    rw [if_neg (of_eq_false h2)] at ha0
    simp [sSizeB, sLivesB, sUses, sUsesR, sTexts, hw, hs, c1, c2, hr, hul, h2]
    refine AW.weak (weak_nrmT 4 1 [] rfl) ?_
  all_goals
    refine loop_ruleH (C := CLu m) (sigCLu m) (mixCLu m) [] (fun i : Nat => ⟨[(1, .ptr 0 1 9 0 0), (3, Enc.enc r), (4, Enc.enc (kidsU a0 (e.kids.take i))), (5, .int .i64 i)], [EB e]⟩) (fun i => i ≤ e.kids.length) (fun i => e.kids.length - i) (by kernel_rfl) ⟨0, Nat.zero_le _, weak_keep 1 (by simp [← ha0, kidsU]) (by simp) (by simp [AV.clean, AV.clean1]) (by simp) (by simp [EB])⟩ (fun i hi => ?_)
    by_cases hlt : i < e.kids.length
    · have i1 : I64 ((i : Int) + 1) := by unfold I64; omega
      have w1 := hw.kid _ (ix_mem hlt)
      have w3 := names_kid hlt
      have w4 : (namesE (ix e.kids i)).length ≤ 1000000000000 := by omega
      have w5 : (usesF (ix e.kids i)).length ≤ 10000000000 := by have := uses_len (ix e.kids i); omega
      have hsn := kidsU_snoc (acc := a0) hlt
      have hKl : (kidsU a0 (e.kids.take i)).length ≤ 10000000000 := by
        have h1 := kidsU_len (acc := a0) (l := e.kids.take i)
        have h2 := congrArg List.length (namesL_append (e.kids.take i) (e.kids.drop i))
        rw [List.take_append_drop, List.length_append] at h2
        omega
      simp [EB, hlt, rowAt_enc hlt, sUses, sUnion, w1, w4, w5, hKl, i1]
      exact ⟨i + 1, by omega, by omega, weak_keep 1 (by simp [hsn]) (by simp) (by simp [AV.clean, AV.clean1]) (by simp) (by simp [EB])⟩
    · obtain rfl : i = e.kids.length := by omega
      rw [List.take_length, hk]
      simp [EB, hlt, sTexts, sLivesB, hul]
end
end Go.Proofs.YtgjljfbohpnfcaaGreat


/-
  layer 21: a scope holds each variable once, with one of four kinds.
-/
namespace Go.Proofs.YtgjljfbohpnfcaaGreat
set_option linter.unusedVariables false
set_option linter.unusedSimpArgs false

def Once (l : List Cnt) : Prop := l.Pairwise (fun a b => a.Name ≠ b.Name) ∧ ∀ c ∈ l, 1 ≤ c.N ∧ c.N ≤ 4
theorem once_nil : Once [] := ⟨List.Pairwise.nil, fun c h => by cases h⟩
theorem kindF_mem {n : ByteArray} : ∀ {l : List Cnt}, kindF l n ≠ 0 → ∃ c ∈ l, c.Name = n ∧ kindF l n = c.N
  | [], h => absurd rfl h
  | a :: r, h => by
    rw [kindF] at h ⊢
    split
    · rename_i e; exact ⟨a, by simp, e, rfl⟩
    · rename_i e
      rw [if_neg e] at h
      obtain ⟨c, h1, h2, h3⟩ := kindF_mem h
      exact ⟨c, by simp [h1], h2, h3⟩
theorem kindF_none {n : ByteArray} : ∀ {l : List Cnt}, Once l → kindF l n = 0 → ∀ c ∈ l, c.Name ≠ n
  | [], _, _, c, hc => by cases hc
  | a :: r, ho, h, c, hc => by
    rw [kindF] at h
    have h4 := ho.2 a (by simp)
    split at h
    · omega
    · rename_i e
      rcases List.mem_cons.1 hc with rfl | hc
      · exact e
      · exact kindF_none ⟨(List.pairwise_cons.1 ho.1).2, fun x hx => ho.2 x (by simp [hx])⟩ h c hc
theorem Once.snoc {l : List Cnt} (h : Once l) {n : ByteArray} {k : Int} (h0 : kindF l n = 0) (h1 : 1 ≤ k) (h2 : k ≤ 4) : Once (l ++ [⟨n, k⟩]) := by
  refine ⟨List.pairwise_append.2 ⟨h.1, List.pairwise_singleton _ _, fun a ha b hb => ?_⟩, fun c hc => ?_⟩
  · have : b = ⟨n, k⟩ := by simpa using hb
    subst this
    exact kindF_none h h0 a ha
  · rcases List.mem_append.1 hc with hc | hc
    · exact h.2 c hc
    · have : c = ⟨n, k⟩ := by simpa using hc
      subst this
      exact ⟨h1, h2⟩
def InvB (b : Bn) : Prop := b.e = 0 → Once b.now ∧ Once b.old
theorem fail_e {b : Bn} {x : Int} (h : (b.fail x).e = 0) : b.e = 0 ∧ x = 0 := by
  unfold Bn.fail at h
  split at h
  · rename_i h0; exact ⟨h0, h⟩
  · rename_i h0; exact absurd h h0
theorem InvB.fail {b : Bn} (h : InvB b) (x : Int) : InvB (b.fail x) := fun q => by rw [Bn.fail_now, Bn.fail_old]; exact h (fail_e q).1
theorem InvB.intro {b : Bn} (h : InvB b) {n : ByteArray} {k : Int} (h0 : b.e = 0 → kindF b.now n = 0) (h1 : b.e = 0 → 1 ≤ k ∧ k ≤ 4) : InvB (b.intro n k) := by
  unfold Bn.intro
  split
  · exact h.fail 4
  · intro q
    obtain ⟨a, c⟩ := h q
    exact ⟨a.snoc (h0 q) (h1 q).1 (h1 q).2, c⟩
theorem InvB.props : ∀ {l : List PropPat} {b : Bn}, InvB b → InvB (b.props l)
  | [], _, h => h
  | a :: r, b, h => InvB.props (l := r) (h.fail _)
theorem InvB.chks : ∀ {l : List Expr} {b : Bn}, InvB b → InvB (b.chks l)
  | [], _, h => h
  | a :: r, b, h => InvB.chks (l := r) (h.fail _)
theorem InvB.sorts : ∀ {l : List SortK} {b : Bn}, InvB b → InvB (b.sorts l)
  | [], _, h => h
  | a :: r, b, h => InvB.sorts (l := r) (h.fail _)
theorem InvB.nodeK {b : Bn} (h : InvB b) (n : NodePat) (mt : Bool) : InvB (b.nodeK n mt) := by
  unfold Bn.nodeK
  split
  · exact h
  split
  · rename_i q; exact h.intro (fun _ => q) fun _ => by omega
  repeat' split
  all_goals first | exact h | exact h.fail _
theorem InvB.edgeK {b : Bn} (h : InvB b) (n : EdgePat) (mt : Bool) : InvB (b.edgeK n mt) := by
  unfold Bn.edgeK
  split
  · exact h
  split
  · rename_i q
    split
    · exact h.intro (fun _ => q) fun _ => by omega
    · exact h.intro (fun _ => q) fun _ => by omega
  repeat' split
  all_goals first | exact h | exact h.fail _
theorem InvB.walk {b : Bn} (h : InvB b) (p : PathPat) (mt : Bool) : ∀ k, InvB (b.walk p mt k)
  | 0 => h
  | k + 1 => by
    have h1 : InvB ((b.walk p mt k).node (ix p.nodes k) mt) := ((h.walk p mt k).nodeK _ _).props
    rw [Bn.walk]
    split
    · exact (h1.edgeK _ _).props
    · exact h1
theorem InvB.pathV {b : Bn} (h : InvB b) (v : ByteArray) (k : Int) : InvB (b.pathV v k) := by
  unfold Bn.pathV
  split
  · exact h
  split
  · exact h.fail _
  split
  · exact h.fail _
  · rename_i q; exact h.intro (fun _ => by simpa using q) fun _ => by omega
theorem InvB.pathL {k : Int} : ∀ {l : List PathPat} {b : Bn}, InvB b → InvB (b.pathL l k)
  | [], _, h => h
  | a :: r, b, h => InvB.pathL (l := r) ((h.walk a _ _).pathV _ _)
theorem InvB.element {b : Bn} (h : InvB b) (n : ByteArray) (k : Bool) : InvB (b.element n k) := by
  unfold Bn.element
  repeat' split
  all_goals first | exact h | exact h.fail _
theorem InvB.setL : ∀ {l : List SetI} {b : Bn}, InvB b → InvB (b.setL l)
  | [], _, h => h
  | a :: r, b, h => InvB.setL (l := r) ((h.element _ _).fail _)
theorem InvB.nameL : ∀ {l : List ByteArray} {b : Bn}, InvB b → InvB (b.nameL l)
  | [], _, h => h
  | a :: r, b, h => InvB.nameL (l := r) (h.element _ _)
theorem InvB.item {b : Bn} (h : InvB b) (x : Item) : InvB (b.item x) := by
  unfold Bn.item
  dsimp only
  have h1 := h.fail (checkX b.old x.e true)
  have hk : (b.fail (checkX b.old x.e true)).e = 0 → x.e.op = 2 → 1 ≤ kindF (b.fail (checkX b.old x.e true)).old x.e.name ∧ kindF (b.fail (checkX b.old x.e true)).old x.e.name ≤ 4 := fun q ho => by
    rw [Bn.fail_old]
    obtain ⟨q1, q2⟩ := fail_e q
    obtain ⟨c, c1, c2, c3⟩ := kindF_mem (check_var q2 ho)
    rw [c3]
    exact (h q1).2.2 c c1
  split
  · refine (h1.fail 7).intro (fun q => absurd (fail_e q).2 (by decide)) (fun q => absurd (fail_e q).2 (by decide))
  · rename_i q
    refine h1.intro (fun _ => by simpa using q) fun q => ?_
    split
    · rename_i ho; exact hk q ho
    · omega
theorem InvB.itemL : ∀ {l : List Item} {b : Bn}, InvB b → InvB (b.itemL l)
  | [], _, h => h
  | a :: r, b, h => InvB.itemL (l := r) (h.item a)
theorem InvB.unwind {b : Bn} (h : InvB b) (c : Clause) : InvB (b.unwind c) := by
  unfold Bn.unwind
  dsimp only
  have h1 := h.fail (checkX b.now c.e false)
  split
  · exact (h1.fail 7).intro (fun q => absurd (fail_e q).2 (by decide)) fun _ => by omega
  · rename_i q; exact h1.intro (fun _ => by simpa using q) fun _ => by omega
theorem InvB.clause {b : Bn} (h : InvB b) (c : Clause) : InvB (b.clause c) := by
  have h1 : InvB ({ b with old := b.now } : Bn) := fun q => ⟨(h q).1, (h q).1⟩
  have h2 : InvB ({ b with old := b.now, now := [] } : Bn) := fun q => ⟨once_nil, (h q).1⟩
  unfold Bn.clause
  repeat' split
  · exact (h1.pathL).chks
  · exact h1.unwind c
  · exact ((h2.itemL).sorts).chks
  · exact h1.setL
  · exact h1.nameL
  · exact h1
theorem goS_once : ∀ (l : List Clause) (b : Bn) (i : Nat), InvB b → b.e = 0 → Once (goS b l i).1
  | [], b, i, h, h0 => (h h0).1
  | c :: r, b, i, h, h0 => by
    rw [goS]
    split
    · exact once_nil
    · rename_i q; exact goS_once r _ _ (h.clause c) (by simpa using q)
theorem goS_err : ∀ (l : List Clause) (b : Bn) (i : Nat), (goS b l i).2.2 ≠ 0 → (goS b l i).1 = []
  | [], b, i, h => absurd rfl h
  | c :: r, b, i, h => by
    rw [goS] at h ⊢
    split
    · rfl
    · rename_i q; rw [if_neg q] at h; exact goS_err r _ _ h
end Go.Proofs.YtgjljfbohpnfcaaGreat


/-
  layer 18: how many parts a clause has, as the reference adds them up.
-/
namespace Go.Proofs.YtgjljfbohpnfcaaGreat
open Go.RowKit
set_option linter.unusedSimpArgs false
set_option linter.unusedVariables false
set_option maxRecDepth 100000

def exprsL (l : List NodePat) : List Expr := l.flatMap fun x => x.props.map (·.e)
def nsum (l : List NodePat) : Nat := (l.map fun x => x.props.length).sum
def esum (l : List EdgePat) : Nat := (l.map fun x => x.props.length).sum
theorem exprsL_len : ∀ (ns : List NodePat) (es : List EdgePat), (exprsL (partsL ns es)).length ≤ nsum ns + esum es
  | [], es => by simp [partsL, exprsL]
  | n :: ns, [] => by
    have := exprsL_len ns []
    simp only [partsL, exprsL, List.flatMap_cons, List.length_append, List.length_map, nsum, esum, List.map_cons, List.sum_cons, List.map_nil, List.sum_nil] at this ⊢
    omega
  | n :: ns, e :: es => by
    have := exprsL_len ns es
    simp only [partsL, exprsL, List.flatMap_cons, List.length_append, List.length_map, nsum, esum, List.map_cons, List.sum_cons, edgeN] at this ⊢
    omega
theorem nsum_take : ∀ (l : List NodePat) (i : Nat), i < l.length → nsum (l.take i) + (ix l i).props.length ≤ nsum l
  | n :: l, 0, _ => by simp [nsum, ix]
  | n :: l, i + 1, h => by
    have := nsum_take l i (by simpa using h)
    have e : ix (n :: l) (i + 1) = ix l i := rfl
    rw [e]
    simp only [List.take_succ_cons, nsum, List.map_cons, List.sum_cons] at this ⊢
    omega
/-- Where the expressions of the first i nodes (and their edges) stand. -/
theorem exprs_at (ns : List NodePat) (es : List EdgePat) (i : Nat) (h : i < ns.length) : exprsL (partsL (ns.take (i + 1)) es) = exprsL (partsL (ns.take i) es) ++ ((ix ns i).props.map (·.e) ++ if i < es.length then (ix es i).props.map (·.e) else []) := by
  rw [partsL_take ns es i h]
  unfold exprsL
  rw [List.flatMap_append, List.flatMap_cons]
  split <;> simp [edgeN]
theorem exprs_bound (ns : List NodePat) (es : List EdgePat) (i : Nat) (h : i < ns.length) : (exprsL (partsL (ns.take i) es)).length + (ix ns i).props.length + (if i < es.length then (ix es i).props.length else 0) ≤ nsum ns + esum es := by
  have h1 := exprsL_len (ns.take (i + 1)) es
  rw [exprs_at ns es i h] at h1
  have h2 : nsum (ns.take (i + 1)) ≤ nsum ns := by
    rcases Nat.lt_or_ge (i + 1) ns.length with h3 | h3
    · have := nsum_take ns (i + 1) h3; omega
    · rw [List.take_of_length_le h3]; exact Nat.le_refl _
  simp only [List.length_append, List.length_map] at h1
  split at h1 <;> rename_i h3
  · rw [if_pos h3]
    simp only [List.length_map] at h1
    omega
  · rw [if_neg h3]
    simp only [List.length_nil] at h1
    omega
theorem take_succ' {α : Type} [Inhabited α] {l : List α} {k : Nat} (h : k < l.length) : l.take (k + 1) = l.take k ++ [ix l k] := by
  rw [List.take_add_one, List.getElem?_eq_getElem h, ix_lt h]
  rfl
theorem ix_map_e {l : List PropPat} {k : Nat} (h : k < l.length) : ix (l.map (·.e)) k = (ix l k).e := by
  rw [ix_lt (by simpa using h), ix_lt h]
  simp
def WfPS (p : PathPat) : Prop := WfP p ∧ nsum p.nodes + esum p.edges ≤ 1048576
def OX (l : List Expr) : Blk := ⟨42, 9, encRows l, true, true⟩

section
variable {m : Int}
def sProps : List AV → Option (Prop × AV) := spec1 (fun (p : PathPat) => WfPS p) (fun p => Enc.enc (exprsL (partsL p.nodes p.edges)))
set_option maxHeartbeats 8000000 in
theorem propsR : PureOK Tryz.prog (G m) 34 sProps := by
  refine pure1 (C := CE m) (sigCE m) (mixCE m) Tryz.func34 rfl rfl rfl (by kernel_rfl) (by decide) (fun p ⟨⟨wv, ⟨wn, wN⟩, we, wE⟩, hb⟩ => ?_)
  have we' := maxLen_le we
  simp
  refine loop_rule (C := CE m) (sigCE m) (mixCE m) (fun i : Nat => ⟨[(1, .ptr 0 1 3 0 0), (3, .own 1 (exprsL (partsL (p.nodes.take i) p.edges)).length), (4, .int .i64 i)], [PB p, OX (exprsL (partsL (p.nodes.take i) p.edges))]⟩) (fun i => i ≤ p.nodes.length) (fun i => p.nodes.length - i) (by kernel_rfl) ⟨0, by simp, (weak_nil 3 9 42 (by simp) (by decide)).trans (weak_slots (by simp [partsL, exprsL, PB]))⟩ (fun i hi => ?_)
  by_cases hlt : i < p.nodes.length
  · have i1 : I64 ((i : Int) + 1) := by unfold I64; omega
    obtain ⟨w1, _, w4, w5⟩ := wN _ (ix_mem hlt)
    have hbd := exprs_bound p.nodes p.edges i hlt
    have hat := exprs_at p.nodes p.edges i hlt
    obtain ⟨L, hL⟩ : ∃ L, L = exprsL (partsL (p.nodes.take i) p.edges) := ⟨_, rfl⟩
    rw [← hL] at hbd hat
    obtain ⟨X, hX⟩ : ∃ X, X = (ix p.nodes i).props.map (·.e) := ⟨_, rfl⟩
    have hXl : X.length = (ix p.nodes i).props.length := by rw [hX]; simp
    rw [← hX] at hat
    simp [PB, OX, hlt, rowAt_enc hlt, ← hL]
    refine loop_rule (C := CE m) (sigCE m) (mixCE m) (fun k : Nat => ⟨[(1, .ptr 0 1 3 0 0), (3, .own 1 (L ++ X.take k).length), (4, .int .i64 i), (5, .int .i64 k)], [PB p, OX (L ++ X.take k)]⟩) (fun k => k ≤ X.length) (fun k => X.length - k) (by kernel_rfl) ⟨0, by simp, weak_keep 2 (by simp) (by simp) (by simp [AV.clean, AV.clean1]) (by simp) (by simp [PB, OX])⟩ (fun k hk => ?_)
    by_cases hkl : k < X.length
    · have i2 : I64 ((k : Int) + 1) := by unfold I64; omega
      have hkl2 : k < (ix p.nodes i).props.length := by omega
      have hXk : ix X k = (ix (ix p.nodes i).props k).e := by rw [hX]; exact ix_map_e hkl2
      have hmin : min k X.length = k := by omega
      have hmin2 : min (k + 1) X.length = k + 1 := by omega
      simp [PB, OX, hlt, hkl2, rowAt_enc hlt, ← hL, rowAt_enc hkl2, i2, hmin]
      refine ⟨⟨by omega, by omega⟩, k + 1, by omega, by omega, ?_⟩
      exact weak_keep 2 (by simp [hmin, hmin2] <;> omega) (by simp) (by simp [AV.clean, AV.clean1]) (by simp) (by simp [PB, OX, encRows, take_succ' hkl, hXk])
    have hkl2 : ¬ k < (ix p.nodes i).props.length := by omega
    have hk2 : X.take k = X := List.take_of_length_le (by omega)
    rw [hk2]
    by_cases h2 : i < p.edges.length
    · rw [if_pos h2] at hbd hat
      obtain ⟨M, hM⟩ : ∃ M, M = L ++ X := ⟨_, rfl⟩
      have hMl : M.length = L.length + X.length := by rw [hM]; simp
      obtain ⟨Y, hY⟩ : ∃ Y, Y = (ix p.edges i).props.map (·.e) := ⟨_, rfl⟩
      have hYl : Y.length = (ix p.edges i).props.length := by rw [hY]; simp
      have hML : M.length = L.length + X.length := hMl
      rw [← hM]
      have hlen2 : L.length + X.length = M.length := hMl.symm
      have hat2 : exprsL (partsL (p.nodes.take (i + 1)) p.edges) = M ++ Y := by rw [hat, hM, hY, List.append_assoc]
      simp [PB, OX, hlt, rowAt_enc hlt, h2, rowAt_enc h2, hkl2]
      refine loop_rule (C := CE m) (sigCE m) (mixCE m) (fun k : Nat => ⟨[(1, .ptr 0 1 3 0 0), (3, .own 1 (M ++ Y.take k).length), (4, .int .i64 i), (6, .int .i64 k)], [PB p, OX (M ++ Y.take k)]⟩) (fun k => k ≤ Y.length) (fun k => Y.length - k) (by kernel_rfl) ⟨0, by simp, weak_keep 2 (by simp) (by simp) (by simp [AV.clean, AV.clean1]) (by simp) (by simp [PB, OX])⟩ (fun k hk => ?_)
      by_cases hkl : k < Y.length
      · have i2 : I64 ((k : Int) + 1) := by unfold I64; omega
        have hkl2 : k < (ix p.edges i).props.length := by omega
        have hXk : ix Y k = (ix (ix p.edges i).props k).e := by rw [hY]; exact ix_map_e hkl2
        have hmin : min k Y.length = k := by omega
        have hmin2 : min (k + 1) Y.length = k + 1 := by omega
        simp [PB, OX, hlt, hkl2, rowAt_enc hlt, h2, rowAt_enc h2, rowAt_enc hkl2, i2, hmin]
        refine ⟨⟨by omega, by omega⟩, k + 1, by omega, by omega, ?_⟩
        exact weak_keep 2 (by simp [hmin, hmin2] <;> omega) (by simp) (by simp [AV.clean, AV.clean1]) (by simp) (by simp [PB, OX, encRows, take_succ' hkl, hXk])
      have hkl2 : ¬ k < (ix p.edges i).props.length := by omega
      have hk2 : Y.take k = Y := List.take_of_length_le (by omega)
      rw [hk2]
      simp [PB, OX, hlt, hkl2, h2, rowAt_enc hlt, rowAt_enc h2, i1]
      refine ⟨i + 1, by omega, by omega, ?_⟩
      rw [hat2]
      exact weak_keep 2 (by simp) (by simp) (by simp [AV.clean, AV.clean1]) (by simp) (by simp [PB, OX])
    · rw [if_neg h2, List.append_nil] at hat
      simp [PB, OX, hlt, hkl2, h2, rowAt_enc hlt, i1]
      refine ⟨i + 1, by omega, by omega, ?_⟩
      rw [hat]
      exact weak_keep 2 (by simp) (by simp) (by simp [AV.clean, AV.clean1]) (by simp) (by simp [PB, OX])
  · have e : p.nodes.take i = p.nodes := List.take_of_length_le (by omega)
    simp [PB, OX, hlt, e]

def exprW (n : Int) (e : Expr) : Int := w64 (n + sizeE e)
def edgeW (n : Int) (x : EdgePat) : Int := w64 (w64 (n + x.types.length) + x.props.length)
def nodeW (n : Int) (x : NodePat) : Int := w64 (w64 (n + x.labels.length) + x.props.length)
def pathW (n : Int) (p : PathPat) : Int := p.nodes.foldl nodeW (p.edges.foldl edgeW ((exprsL (partsL p.nodes p.edges)).foldl exprW (w64 (w64 (n + p.nodes.length) + p.edges.length))))
def itemW (n : Int) (x : Item) : Int := w64 (n + sizeE x.e)
def sortW (n : Int) (x : SortK) : Int := w64 (n + sizeE x.e)
def setW (n : Int) (x : SetI) : Int := w64 (n + sizeE x.e)
def manyE (c : Clause) : Int := c.sets.foldl setW (c.order.foldl sortW (c.items.foldl itemW (c.wh.foldl exprW (c.paths.foldl pathW (w64 ((c.names.length : Int) + sizeE c.e))))))
def WfCS (c : Clause) : Prop := WfC c ∧ ∀ p ∈ c.paths, WfPS p
noncomputable def CMn (m : Int) : Ctx := mkC Tryz.prog (G m) [(17, .pure sSzA), (34, .pure sProps)]
@[simp] theorem CMn_P (m : Int) : (CMn m).P = Tryz.prog := rfl
@[simp] theorem CMn_1 (m : Int) : (CMn m).S 17 = .pure sSzA := rfl
@[simp] theorem CMn_2 (m : Int) : (CMn m).S 34 = .pure sProps := rfl
theorem mixCMn (m : Int) : (CMn m).P.follows .mixedOrders = true := mixed
theorem sigCMn (m : Int) : SigOK (CMn m) := sigOK_cons (entryPure sizeR_ Tryz.func17 rfl (by decide)) (sigOK_cons (entryPure propsR Tryz.func34 rfl (by decide)) (sigOK_nil _ _))
theorem exprsL_wf {l : List NodePat} (h : ∀ x ∈ l, WfN x) : ∀ e ∈ exprsL l, WfE e := by
  intro e he
  obtain ⟨x, hx, h2⟩ := List.mem_flatMap.1 he
  obtain ⟨q, hq, rfl⟩ := List.mem_map.1 h2
  exact ((h x hx).2.2.2 q hq).2
def sMany : List AV → Option (Prop × AV) := spec1 (fun (c : Clause) => WfCS c) (fun c => .int .i64 (manyE c))
set_option maxHeartbeats 16000000 in
theorem manyR : PureOK Tryz.prog (G m) 23 sMany := by
  refine pure1 (C := CMn m) (sigCMn m) (mixCMn m) Tryz.func23 rfl rfl rfl (by kernel_rfl) (by decide) (fun c ⟨⟨⟨l1, w1⟩, ⟨l2, w2⟩, w3, ⟨l4, w4⟩, ⟨l5, w5⟩, ⟨l6, w6⟩, l7⟩, wp⟩ => ?_)
  have l1' := maxLen_le l1
  have l2' := maxLen_le l2
  have l4' := maxLen_le l4
  have l5' := maxLen_le l5
  have l6' := maxLen_le l6
  have l7' := maxLen_le l7
  obtain ⟨n0, hn0⟩ : ∃ n0, n0 = w64 ((c.names.length : Int) + sizeE c.e) := ⟨_, rfl⟩
  simp [sSzA, w3, ← hn0]
  refine loop_rule (C := CMn m) (sigCMn m) (mixCMn m) (fun q : Nat × Int => ⟨[(1, .ptr 0 1 21 0 0), (3, .int .i64 q.2), (4, .int .i64 q.1)], [CB c]⟩) (fun q => q.1 ≤ c.paths.length ∧ (c.paths.drop q.1).foldl pathW q.2 = c.paths.foldl pathW n0) (fun q => c.paths.length - q.1) (by kernel_rfl) ⟨(0, n0), by simp, weak_slots (by simp)⟩ (fun ⟨i, x⟩ ⟨hi, hs⟩ => ?_)
  simp only at hi hs ⊢
  by_cases hlt : i < c.paths.length
  · have i1 : I64 ((i : Int) + 1) := by unfold I64; omega
    have wps := wp _ (ix_mem hlt)
    have wps2 := wps
    obtain ⟨⟨pv, ⟨pn, pN⟩, pe, pE⟩, pb⟩ := wps2
    have pe' := maxLen_le pe
    rw [foldl_drop hlt] at hs
    obtain ⟨P, hP⟩ : ∃ P, P = ix c.paths i := ⟨_, rfl⟩
    rw [← hP] at pv pn pN pe pE pb pe' hs wps
    obtain ⟨X, hX⟩ : ∃ X, X = exprsL (partsL P.nodes P.edges) := ⟨_, rfl⟩
    have hXw : ∀ e ∈ X, WfE e := by rw [hX]; exact exprsL_wf (partsL_wf _ _ pN pE)
    have hXl : X.length ≤ 1048576 := by have := exprsL_len P.nodes P.edges; rw [← hX] at this; omega
    obtain ⟨x0, hx0⟩ : ∃ x0, x0 = w64 (w64 (x + P.nodes.length) + P.edges.length) := ⟨_, rfl⟩
    simp [CB, hlt, rowAt_enc hlt, ← hP, sProps, wps, ← hX, ← hx0]
    refine loop_rule (C := CMn m) (sigCMn m) (mixCMn m) (fun q : Nat × Int => ⟨[(1, .ptr 0 1 21 0 0), (3, .int .i64 q.2), (4, .int .i64 i), (5, Enc.enc X), (6, .int .i64 q.1)], [CB c]⟩) (fun q => q.1 ≤ X.length ∧ (X.drop q.1).foldl exprW q.2 = X.foldl exprW x0) (fun q => X.length - q.1) (by kernel_rfl) ⟨(0, x0), by simp, weak_slots (by simp [CB])⟩ (fun ⟨k, y⟩ ⟨hk, hs1⟩ => ?_)
    simp only at hk hs1 ⊢
    by_cases hkl : k < X.length
    · have i2 : I64 ((k : Int) + 1) := by unfold I64; omega
      have we := hXw _ (ix_mem hkl)
      rw [foldl_drop hkl] at hs1
      simp [CB, hkl, rowAt_enc hkl, sSzA, we, i2]
      exact ⟨k + 1, exprW y (ix X k), ⟨by omega, hs1⟩, by omega, weak_slots (by simp [exprW])⟩
    rw [List.drop_eq_nil_of_le (by omega), List.foldl_nil] at hs1
    simp [CB, hkl]
    refine loop_rule (C := CMn m) (sigCMn m) (mixCMn m) (fun q : Nat × Int => ⟨[(1, .ptr 0 1 21 0 0), (3, .int .i64 q.2), (4, .int .i64 i), (7, .int .i64 q.1)], [CB c]⟩) (fun q => q.1 ≤ P.edges.length ∧ (P.edges.drop q.1).foldl edgeW q.2 = P.edges.foldl edgeW (X.foldl exprW x0)) (fun q => P.edges.length - q.1) (by kernel_rfl) ⟨(0, y), ⟨by omega, by rw [hs1]; rfl⟩, weak_slots (by simp [CB])⟩ (fun ⟨k, y⟩ ⟨hk, hs2⟩ => ?_)
    simp only at hk hs2 ⊢
    by_cases hkl : k < P.edges.length
    · have i2 : I64 ((k : Int) + 1) := by unfold I64; omega
      rw [foldl_drop hkl] at hs2
      simp [CB, hlt, rowAt_enc hlt, ← hP, hkl, rowAt_enc hkl, i2]
      exact ⟨k + 1, edgeW y (ix P.edges k), ⟨by omega, hs2⟩, by omega, weak_slots (by simp [edgeW])⟩
    rw [List.drop_eq_nil_of_le (by omega), List.foldl_nil] at hs2
    simp [CB, hlt, rowAt_enc hlt, ← hP, hkl]
    refine loop_rule (C := CMn m) (sigCMn m) (mixCMn m) (fun q : Nat × Int => ⟨[(1, .ptr 0 1 21 0 0), (3, .int .i64 q.2), (4, .int .i64 i), (8, .int .i64 q.1)], [CB c]⟩) (fun q => q.1 ≤ P.nodes.length ∧ (P.nodes.drop q.1).foldl nodeW q.2 = pathW x P) (fun q => P.nodes.length - q.1) (by kernel_rfl) ⟨(0, y), ⟨by omega, by rw [hs2, hx0, hX]; rfl⟩, weak_slots (by simp [CB])⟩ (fun ⟨k, y⟩ ⟨hk, hs3⟩ => ?_)
    simp only at hk hs3 ⊢
    by_cases hkl : k < P.nodes.length
    · have i2 : I64 ((k : Int) + 1) := by unfold I64; omega
      rw [foldl_drop hkl] at hs3
      simp [CB, hlt, rowAt_enc hlt, ← hP, hkl, rowAt_enc hkl, i2]
      exact ⟨k + 1, nodeW y (ix P.nodes k), ⟨by omega, hs3⟩, by omega, weak_slots (by simp [nodeW])⟩
    rw [List.drop_eq_nil_of_le (by omega), List.foldl_nil] at hs3
    simp [CB, hlt, rowAt_enc hlt, ← hP, hkl, i1]
    exact ⟨i + 1, y, ⟨by omega, by rw [hs3]; exact hs⟩, by omega, weak_slots (by simp [CB])⟩
  rw [List.drop_eq_nil_of_le (by omega), List.foldl_nil] at hs
  subst hs
  obtain ⟨n1, hn1⟩ : ∃ n1, n1 = c.paths.foldl pathW n0 := ⟨_, rfl⟩
  rw [← hn1]
  simp [CB, hlt]
  refine loop_rule (C := CMn m) (sigCMn m) (mixCMn m) (fun q : Nat × Int => ⟨[(1, .ptr 0 1 21 0 0), (3, .int .i64 q.2), (9, .int .i64 q.1)], [CB c]⟩) (fun q => q.1 ≤ c.wh.length ∧ (c.wh.drop q.1).foldl exprW q.2 = c.wh.foldl exprW n1) (fun q => c.wh.length - q.1) (by kernel_rfl) ⟨(0, n1), by simp, weak_slots (by simp [CB])⟩ (fun ⟨i, x⟩ ⟨hi, hs⟩ => ?_)
  simp only at hi hs ⊢
  by_cases hlt : i < c.wh.length
  · have i1 : I64 ((i : Int) + 1) := by unfold I64; omega
    have w := w2 _ (ix_mem hlt)
    rw [foldl_drop hlt] at hs
    simp [CB, hlt, rowAt_enc hlt, sSzA, w, i1]
    exact ⟨i + 1, exprW x (ix c.wh i), ⟨by omega, hs⟩, by omega, weak_slots (by simp [exprW])⟩
  rw [List.drop_eq_nil_of_le (by omega), List.foldl_nil] at hs
  simp [CB, hlt]
  refine loop_rule (C := CMn m) (sigCMn m) (mixCMn m) (fun q : Nat × Int => ⟨[(1, .ptr 0 1 21 0 0), (3, .int .i64 q.2), (10, .int .i64 q.1)], [CB c]⟩) (fun q => q.1 ≤ c.items.length ∧ (c.items.drop q.1).foldl itemW q.2 = c.items.foldl itemW (c.wh.foldl exprW n1)) (fun q => c.items.length - q.1) (by kernel_rfl) ⟨(0, x), ⟨by omega, by rw [hs]; rfl⟩, weak_slots (by simp [CB])⟩ (fun ⟨i, x⟩ ⟨hi, hs⟩ => ?_)
  simp only at hi hs ⊢
  by_cases hlt : i < c.items.length
  · have i1 : I64 ((i : Int) + 1) := by unfold I64; omega
    have w := w4 _ (ix_mem hlt)
    rw [foldl_drop hlt] at hs
    simp [CB, hlt, rowAt_enc hlt, sSzA, w, i1]
    exact ⟨i + 1, itemW x (ix c.items i), ⟨by omega, hs⟩, by omega, weak_slots (by simp [itemW])⟩
  rw [List.drop_eq_nil_of_le (by omega), List.foldl_nil] at hs
  simp [CB, hlt]
  refine loop_rule (C := CMn m) (sigCMn m) (mixCMn m) (fun q : Nat × Int => ⟨[(1, .ptr 0 1 21 0 0), (3, .int .i64 q.2), (11, .int .i64 q.1)], [CB c]⟩) (fun q => q.1 ≤ c.order.length ∧ (c.order.drop q.1).foldl sortW q.2 = c.order.foldl sortW (c.items.foldl itemW (c.wh.foldl exprW n1))) (fun q => c.order.length - q.1) (by kernel_rfl) ⟨(0, x), ⟨by omega, by rw [hs]; rfl⟩, weak_slots (by simp [CB])⟩ (fun ⟨i, x⟩ ⟨hi, hs⟩ => ?_)
  simp only at hi hs ⊢
  by_cases hlt : i < c.order.length
  · have i1 : I64 ((i : Int) + 1) := by unfold I64; omega
    have w := w5 _ (ix_mem hlt)
    rw [foldl_drop hlt] at hs
    simp [CB, hlt, rowAt_enc hlt, sSzA, w, i1]
    exact ⟨i + 1, sortW x (ix c.order i), ⟨by omega, hs⟩, by omega, weak_slots (by simp [sortW])⟩
  rw [List.drop_eq_nil_of_le (by omega), List.foldl_nil] at hs
  simp [CB, hlt]
  refine loop_rule (C := CMn m) (sigCMn m) (mixCMn m) (fun q : Nat × Int => ⟨[(1, .ptr 0 1 21 0 0), (3, .int .i64 q.2), (12, .int .i64 q.1)], [CB c]⟩) (fun q => q.1 ≤ c.sets.length ∧ (c.sets.drop q.1).foldl setW q.2 = manyE c) (fun q => c.sets.length - q.1) (by kernel_rfl) ⟨(0, x), ⟨by omega, by rw [hs, hn1, hn0]; rfl⟩, weak_slots (by simp [CB])⟩ (fun ⟨i, x⟩ ⟨hi, hs⟩ => ?_)
  simp only at hi hs ⊢
  by_cases hlt : i < c.sets.length
  · have i1 : I64 ((i : Int) + 1) := by unfold I64; omega
    have w := w6 _ (ix_mem hlt)
    rw [foldl_drop hlt] at hs
    simp [CB, hlt, rowAt_enc hlt, sSzA, w, i1]
    exact ⟨i + 1, setW x (ix c.sets i), ⟨by omega, hs⟩, by omega, weak_slots (by simp [setW])⟩
  rw [List.drop_eq_nil_of_le (by omega), List.foldl_nil] at hs
  simp [CB, hlt, hs]

def clauseW (n : Int) (c : Clause) : Int := w64 (n + manyE c)
def lightB (q : Query) : Bool := decide (q.clauses.foldl clauseW 0 ≤ 3000)
def WfQS (q : Query) : Prop := q.clauses.length ≤ maxLen ∧ ∀ c ∈ q.clauses, WfCS c
noncomputable def CLg (m : Int) : Ctx := mkC Tryz.prog (G m) [(23, .pure sMany)]
@[simp] theorem CLg_P (m : Int) : (CLg m).P = Tryz.prog := rfl
@[simp] theorem CLg_1 (m : Int) : (CLg m).S 23 = .pure sMany := rfl
theorem mixCLg (m : Int) : (CLg m).P.follows .mixedOrders = true := mixed
theorem sigCLg (m : Int) : SigOK (CLg m) := sigOK_cons (entryPure manyR Tryz.func23 rfl (by decide)) (sigOK_nil _ _)
def sLight : List AV → Option (Prop × AV) := spec1 (fun (q : Query) => WfQS q) (fun q => .bool (lightB q))
set_option maxHeartbeats 4000000 in
theorem lightR : PureOK Tryz.prog (G m) 9 sLight := by
  refine pure1 (C := CLg m) (sigCLg m) (mixCLg m) Tryz.func9 rfl rfl rfl (by kernel_rfl) (by decide) (fun q ⟨hl, hw⟩ => ?_)
  have hl' := maxLen_le hl
  simp
  refine loop_rule (C := CLg m) (sigCLg m) (mixCLg m) (fun r : Nat × Int => ⟨[(1, .ptr 0 1 1 0 0), (3, .int .i64 r.2), (4, .int .i64 r.1)], [QB q]⟩) (fun r => r.1 ≤ q.clauses.length ∧ (q.clauses.drop r.1).foldl clauseW r.2 = q.clauses.foldl clauseW 0) (fun r => q.clauses.length - r.1) (by kernel_rfl) ⟨(0, 0), by simp, weak_slots (by simp)⟩ (fun ⟨i, x⟩ ⟨hi, hs⟩ => ?_)
  simp only at hi hs ⊢
  by_cases hlt : i < q.clauses.length
  · have i1 : I64 ((i : Int) + 1) := by unfold I64; omega
    have w := hw _ (ix_mem hlt)
    rw [foldl_drop hlt] at hs
    simp [QB, hlt, rowAt_enc hlt, sMany, w, i1]
    exact ⟨i + 1, clauseW x (ix q.clauses i), ⟨by omega, hs⟩, by omega, weak_slots (by simp [clauseW])⟩
  rw [List.drop_eq_nil_of_le (by omega), List.foldl_nil] at hs
  simp [QB, hlt, lightB, hs]
end
end Go.Proofs.YtgjljfbohpnfcaaGreat


/-
  layer 21: the law that a scope holds each variable once.
-/
namespace Go.Proofs.YtgjljfbohpnfcaaGreat
open Go.RowKit
set_option linter.unusedSimpArgs false
set_option linter.unusedVariables false
set_option maxRecDepth 100000

theorem zero_inv : InvB Bn.zero := fun _ => ⟨once_nil, once_nil⟩
theorem scope_once (q : Query) (n : Int) : Once (scopeF q n).1 := by
  unfold scopeF
  split
  · exact once_nil
  · exact goS_once _ _ _ zero_inv rfl
theorem scope_err (q : Query) (n : Int) (h : (scopeF q n).2.2 ≠ 0) : (scopeF q n).1 = [] := by
  unfold scopeF at h ⊢
  split
  · rfl
  · rename_i he
    rw [if_neg he] at h
    exact goS_err _ _ _ h
theorem kindF_new {n : ByteArray} : ∀ {l : List Cnt}, (∀ c ∈ l, c.Name ≠ n) → kindF l n = 0
  | [], _ => rfl
  | a :: r, h => by
    rw [kindF, if_neg (h a (by simp))]
    exact kindF_new fun c hc => h c (by simp [hc])
theorem once_at {l : List Cnt} (h : Once l) {i : Nat} (hi : i < l.length) : 1 ≤ (ix l i).N ∧ (ix l i).N ≤ 4 ∧ kindF (l.take i) (ix l i).Name = 0 := by
  obtain ⟨h1, h2⟩ := h.2 _ (ix_mem hi)
  refine ⟨h1, h2, kindF_new fun c hc => ?_⟩
  have h3 := h.1
  rw [← List.take_append_drop i l, List.pairwise_append] at h3
  refine h3.2.2 c hc _ ?_
  rw [List.drop_eq_getElem_cons hi, ix_lt hi]
  exact List.mem_cons_self

section
variable {m : Int}
noncomputable def CLo (m : Int) : Ctx := mkC Tryz.prog (G m) [(9, .pure sLight), (10, .pure sLivesB), (11, .pure sScope), (21, .pure sKind)]
@[simp] theorem CLo_P (m : Int) : (CLo m).P = Tryz.prog := rfl
@[simp] theorem CLo_G (m : Int) : (CLo m).G = (G m) := rfl
@[simp] theorem CLo_1 (m : Int) : (CLo m).S 9 = .pure sLight := rfl
@[simp] theorem CLo_2 (m : Int) : (CLo m).S 10 = .pure sLivesB := rfl
@[simp] theorem CLo_3 (m : Int) : (CLo m).S 11 = .pure sScope := rfl
@[simp] theorem CLo_4 (m : Int) : (CLo m).S 21 = .pure sKind := rfl
theorem mixCLo (m : Int) : (CLo m).P.follows .mixedOrders = true := mixed
theorem sigCLo (m : Int) : SigOK (CLo m) := sigOK_cons (entryPure (lightR) Tryz.func9 rfl (by decide)) (sigOK_cons (entryPure (livesB) Tryz.func10 rfl (by decide)) (sigOK_cons (entryPure (scopeP) Tryz.func11 rfl (by decide)) (sigOK_cons (entryPure (kindR) Tryz.func21 rfl (by decide)) (sigOK_nil _ _))))
set_option maxHeartbeats 8000000 in
theorem lawOnce : PureOK Tryz.prog (G m) 6 (spec2 (fun (q : Query) (_ : Int) => WfQS q ∧ GoodQ q) (fun _ _ => .bool true)) := by
  refine pureH2 (C := CLo m) (sigCLo m) (mixCLo m) Tryz.func6 rfl rfl rfl [9] (by kernel_rfl) (by decide) (fun q n ⟨hq, hg⟩ => ?_)
  obtain ⟨s, i, e, hS⟩ : ∃ s i e, scopeF q n = (s, i, e) := ⟨_, _, _, rfl⟩
  have hsl := scope_len q n
  have ho := scope_once q n
  have he := scope_err q n
  rw [hS] at hsl ho he
  simp only at hsl ho he
  cases hL : lightB q
  · simp [sLight, sLivesB, hq, hL]
  have h24 : ¬ (24 : Int) < s.length := by omega
  have hsm := len24 hsl
  by_cases h0 : e = 0
  case' pos =>
    simp [sLight, sLivesB, sScope, triA, hq, hg, hL, hS, h24, h0]
  case' neg =>
    have hs0 : s.length = 0 := by rw [he h0]; rfl
    simp [sLight, sLivesB, sScope, triA, hq, hg, hL, hS, h0, hs0]
  all_goals
    refine loop_ruleH (C := CLo m) (sigCLo m) (mixCLo m) [9] (fun k : Nat => ⟨[(5, Enc.enc s), (8, .int .i64 k)], []⟩) (fun k => k ≤ s.length) (fun k => s.length - k) (by kernel_rfl) ⟨0, Nat.zero_le _, weak_keep 0 (by simp) (by simp) (by simp [AV.clean, AV.clean1]) (by simp) (by simp)⟩ (fun k hk => ?_)
    by_cases hlt : k < s.length
    · have i1 : I64 ((k : Int) + 1) := by unfold I64; omega
      obtain ⟨o1, o2, o3⟩ := once_at ho hlt
      have o1' : ¬ (ix s k).N < 1 := by omega
      have o2' : ¬ 4 < (ix s k).N := by omega
      have hmin : min k s.length = k := by omega
      have htk : (s.take k).length ≤ maxLen := by rw [List.length_take]; unfold maxLen; omega
      simp [hlt]
      refine AW_regionF (sigCLo m) (mixCLo m) [.pure, .pure, .pure, .pure, .read, .pure, .pure, .pure, .pure, .pure, .pure, .read, .pure, .pure, .pure, .pure, .pure, .pure, .pure, .pure, .pure, .pure, .read, .read, .pure, .pure] [[],[],[1,0],[0,1,2],[2,1,0,3],[3,0,1,2,4],[4,2,1,0,3,5],[5,3,0,1,2,4,6],[5,3,0,1,2,4,6],[8,6,4,2,1,0,3,5,7],[7,5,3,0,1,2,4,6,8,9],[9,8,6,4,2,1,0,3,5,7,10],[10,7,5,3,0,1,2,4,6,8,9,11],[11,9,8,7,10,12,5,3,0,1,2,4,6],[6,4,2,1,0,3,5,12,10,7,8,9,11,13],[13,11,9,8,7,10,12,5,3,0,1,2,4,6,14],[13,11,9,8,7,10,12,5,3,0,1,2,4,6,14],[16,14,6,4,2,1,0,3,5,12,10,7,8,9,11,13,15],[13,11,9,8,7,10,12,5,3,0,1,2,4,6,14],[13,11,9,8,7,10,12,5,3,0,1,2,4,6,14],[19,14,6,4,2,1,0,3,5,12,10,7,8,9,11,13,18],[18,13,11,9,8,7,10,12,5,3,0,1,2,4,6,14,19,20],[20,19,14,6,4,2,1,0,3,5,12,10,7,8,9,11,13,18,21],[21,18,19,20,22,15,13,11,9,8,7,10,12,5,3,0,1,2,4,6,14,16,17],[17,16,14,6,4,2,1,0,3,5,12,10,7,8,9,11,13,15,22,20,19,18,21,23],[23,21,18,19,20,22,15,16,17,24,13,11,9,8,7,10,12,5,3,0,1,2,4,6,14]] (by kernel_rfl) (by kernel_rfl) (by kernel_rfl) (by kernel_rfl) ?_
      simp [hlt, rowAt_enc hlt, o1', o2', o3, sKind, htk, hk, hmin, i1]
      exact ⟨by unfold maxLen; omega, k + 1, by omega, by omega, weak_keep 0 (by simp) (by simp) (by simp [AV.clean, AV.clean1]) (by simp) (by simp)⟩
    · obtain rfl : k = s.length := by omega
      simp [hlt, sLivesB]
end
end Go.Proofs.YtgjljfbohpnfcaaGreat


/-
  layer 21: the law of prefixes.
-/
namespace Go.Proofs.YtgjljfbohpnfcaaGreat
open Go.RowKit
set_option linter.unusedSimpArgs false
set_option linter.unusedVariables false
set_option maxRecDepth 100000

theorem goS_pre : ∀ (l : List Clause) (b : Bn) (i j : Nat), (goS b l i).2.2 = 0 → (goS b (l.take j) i).2 = (0, 0)
  | [], b, i, j, _ => by rw [List.take_nil]; rfl
  | c :: r, b, i, 0, _ => rfl
  | c :: r, b, i, j + 1, h => by
    rw [goS] at h
    rw [List.take_succ_cons, goS]
    split at h
    · rename_i q; exact absurd h q
    · rename_i q
      rw [if_neg q]
      exact goS_pre r _ _ j h
theorem goS_at : ∀ (l : List Clause) (b : Bn) (i j : Nat), (goS b l i).2.2 ≠ 0 → ∃ I : Nat, (goS b l i).2.1 = I ∧ i ≤ I ∧ (i + j ≤ I → (goS b (l.take j) i).2 = (0, 0)) ∧ (I < i + j → (goS b (l.take j) i).2 = (goS b l i).2)
  | [], b, i, j, h => absurd rfl h
  | c :: r, b, i, 0, h => by
    rw [goS] at h ⊢
    split at h
    · rename_i q
      rw [if_pos q]
      exact ⟨i, rfl, Nat.le_refl _, fun _ => rfl, fun h => by omega⟩
    · rename_i q
      rw [if_neg q]
      obtain ⟨I, h1, h2, h3, h4⟩ := goS_at r _ (i + 1) 0 h
      exact ⟨I, h1, by omega, fun _ => rfl, fun h => by omega⟩
  | c :: r, b, i, j + 1, h => by
    rw [goS] at h
    rw [List.take_succ_cons, goS, goS]
    split at h
    · rename_i q
      rw [if_pos q, if_pos q]
      exact ⟨i, rfl, Nat.le_refl _, fun h => by omega, fun _ => rfl⟩
    · rename_i q
      rw [if_neg q, if_neg q]
      obtain ⟨I, h1, h2, h3, h4⟩ := goS_at r _ (i + 1) j h
      exact ⟨I, h1, by omega, fun h => h3 (by omega), fun h => h4 (by omega)⟩
theorem cut_nat {q : Query} {n : Nat} (h : n ≤ q.clauses.length) : cutN q n = n := by unfold cutN; omega
theorem scope_nat {q : Query} (h0 : (queryE q).2 = 0) {n : Nat} (h : n ≤ q.clauses.length) : scopeF q n = goS Bn.zero (q.clauses.take n) 0 := by
  unfold scopeF
  rw [if_neg (by simp [h0]), cut_nat h]
/-- What Check says of the place and the error, against a shorter run. -/
theorem prefix_ok {q : Query} (h0 : (queryE q).2 = 0) {n : Nat} (h : n ≤ q.clauses.length) :
    (((checkQ q).2.2 = 0 ∨ (n : Int) ≤ (checkQ q).2.1) → (scopeF q n).2 = (0, 0)) ∧ (¬ ((checkQ q).2.2 = 0 ∨ (n : Int) ≤ (checkQ q).2.1) → (scopeF q n).2 = (checkQ q).2) := by
  have hfull : scopeF q q.clauses.length = goS Bn.zero q.clauses 0 := by rw [scope_nat h0 (Nat.le_refl _), List.take_length]
  rw [scope_nat h0 h]
  unfold checkQ
  rw [hfull]
  by_cases he : (goS Bn.zero q.clauses 0).2.2 = 0
  · rw [if_neg (by simp [he])]
    exact ⟨fun _ => goS_pre _ _ _ _ he, fun hn => absurd (.inl rfl) hn⟩
  · rw [if_pos he]
    obtain ⟨I, h1, h2, h3, h4⟩ := goS_at q.clauses Bn.zero 0 n he
    simp only [h1]
    refine ⟨fun hh => h3 ?_, fun hn => ?_⟩
    · rcases hh with hh | hh
      · exact absurd hh he
      · omega
    · have : ¬ (n : Int) ≤ I := fun q => hn (.inr q)
      rw [h4 (by omega), ← h1]

section
variable {m : Int}
noncomputable def CLp2 (m : Int) : Ctx := mkC Tryz.prog (G m) [(9, .pure sLight), (10, .pure sLivesB), (11, .pure sScope), (14, .pure sCheckQ), (22, .pure sQuery)]
@[simp] theorem CLp2_P (m : Int) : (CLp2 m).P = Tryz.prog := rfl
@[simp] theorem CLp2_G (m : Int) : (CLp2 m).G = (G m) := rfl
@[simp] theorem CLp2_1 (m : Int) : (CLp2 m).S 9 = .pure sLight := rfl
@[simp] theorem CLp2_2 (m : Int) : (CLp2 m).S 10 = .pure sLivesB := rfl
@[simp] theorem CLp2_3 (m : Int) : (CLp2 m).S 11 = .pure sScope := rfl
@[simp] theorem CLp2_4 (m : Int) : (CLp2 m).S 14 = .pure sCheckQ := rfl
@[simp] theorem CLp2_5 (m : Int) : (CLp2 m).S 22 = .pure sQuery := rfl
theorem mixCLp2 (m : Int) : (CLp2 m).P.follows .mixedOrders = true := mixed
theorem sigCLp2 (m : Int) : SigOK (CLp2 m) := sigOK_cons (entryPure (lightR) Tryz.func9 rfl (by decide)) (sigOK_cons (entryPure (livesB) Tryz.func10 rfl (by decide)) (sigOK_cons (entryPure (scopeP) Tryz.func11 rfl (by decide)) (sigOK_cons (entryPure (checkQP) Tryz.func14 rfl (by decide)) (sigOK_cons (entryPure (queryP) Tryz.func22 rfl (by decide)) (sigOK_nil _ _)))))
set_option maxHeartbeats 8000000 in
theorem lawPrefix : PureOK Tryz.prog (G m) 7 (spec2 (fun (q : Query) (_ : Int) => WfQS q ∧ GoodQ q) (fun _ _ => .bool true)) := by
  refine pureH2 (C := CLp2 m) (sigCLp2 m) (mixCLp2 m) Tryz.func7 rfl rfl rfl [] (by kernel_rfl) (by decide) (fun q n ⟨hq, hg⟩ => ?_)
  have hw := hg.1
  cases hL : lightB q
  · simp [sLight, sLivesB, hq, hL]
  obtain ⟨a, e, hQ⟩ : ∃ a e, queryE q = (a, e) := ⟨_, _, rfl⟩
  by_cases he : e = 0
  case neg =>
    have hS : scopeF q n = ([], a, e) := by unfold scopeF; rw [hQ]; simp only; rw [if_pos he]
    simp [sLight, sLivesB, sScope, sQuery, triA, hq, hg, hw, hL, hQ, he, hS]
  subst he
  have h0 : (queryE q).2 = 0 := by rw [hQ]
  obtain ⟨nn, hnn, hnl⟩ : ∃ nn : Nat, (nn : Int) = (if n < 0 then 0 else if (q.clauses.length : Int) < n then (q.clauses.length : Int) else n) ∧ nn ≤ q.clauses.length := by
    by_cases h1 : n < 0
    · exact ⟨0, by rw [if_pos h1]; rfl, Nat.zero_le _⟩
    · by_cases h2 : (q.clauses.length : Int) < n
      · exact ⟨q.clauses.length, by rw [if_neg h1, if_pos h2], Nat.le_refl _⟩
      · exact ⟨n.toNat, by rw [if_neg h1, if_neg h2]; omega, by omega⟩
  obtain ⟨p1, p2⟩ := prefix_ok h0 hnl
  obtain ⟨l, i, e, hC⟩ : ∃ l i e, checkQ q = (l, i, e) := ⟨_, _, _, rfl⟩
  obtain ⟨s, k, f, hS⟩ : ∃ s k f, scopeF q nn = (s, k, f) := ⟨_, _, _, rfl⟩
  rw [hC, hS] at p1 p2
  simp only [Prod.mk.injEq] at p1 p2
  have hln : ¬ (q.clauses.length : Int) < 0 := by omega
  by_cases h1 : n < 0
  · rw [if_pos h1] at hnn
    rw [hnn] at hS p1 p2
    by_cases hc : e = 0 ∨ (0 : Int) ≤ i
    · obtain ⟨rfl, rfl⟩ := p1 hc
      by_cases he : e = 0
      · simp [sLight, sLivesB, sScope, sCheckQ, sQuery, triA, triS, hq, hg, hw, hL, hQ, hC, hS, h1, hln, he]
      · have hi := hc.resolve_left he
        simp [sLight, sLivesB, sScope, sCheckQ, sQuery, triA, triS, hq, hg, hw, hL, hQ, hC, hS, h1, hln, he, hi]
    · obtain ⟨rfl, rfl⟩ := p2 hc
      have he : ¬ f = 0 := fun q => hc (.inl q)
      have hi : ¬ (0 : Int) ≤ k := fun q => hc (.inr q)
      simp [sLight, sLivesB, sScope, sCheckQ, sQuery, triA, triS, hq, hg, hw, hL, hQ, hC, hS, h1, hln, he, hi]
  rw [if_neg h1] at hnn
  by_cases h2 : (q.clauses.length : Int) < n
  · rw [if_pos h2] at hnn
    rw [hnn] at hS p1 p2
    by_cases hc : e = 0 ∨ (q.clauses.length : Int) ≤ i
    · obtain ⟨rfl, rfl⟩ := p1 hc
      by_cases he : e = 0
      · simp [sLight, sLivesB, sScope, sCheckQ, sQuery, triA, triS, hq, hg, hw, hL, hQ, hC, hS, h1, h2, he]
      · have hi := hc.resolve_left he
        simp [sLight, sLivesB, sScope, sCheckQ, sQuery, triA, triS, hq, hg, hw, hL, hQ, hC, hS, h1, h2, he, hi]
    · obtain ⟨rfl, rfl⟩ := p2 hc
      have he : ¬ f = 0 := fun q => hc (.inl q)
      have hi : ¬ (q.clauses.length : Int) ≤ k := fun q => hc (.inr q)
      simp [sLight, sLivesB, sScope, sCheckQ, sQuery, triA, triS, hq, hg, hw, hL, hQ, hC, hS, h1, h2, he, hi]
  · rw [if_neg h2] at hnn
    rw [hnn] at hS p1 p2
    by_cases hc : e = 0 ∨ n ≤ i
    · obtain ⟨rfl, rfl⟩ := p1 hc
      by_cases he : e = 0
      · simp [sLight, sLivesB, sScope, sCheckQ, sQuery, triA, triS, hq, hg, hw, hL, hQ, hC, hS, h1, h2, he]
      · have hi := hc.resolve_left he
        simp [sLight, sLivesB, sScope, sCheckQ, sQuery, triA, triS, hq, hg, hw, hL, hQ, hC, hS, h1, h2, he, hi]
    · obtain ⟨rfl, rfl⟩ := p2 hc
      have he : ¬ f = 0 := fun q => hc (.inl q)
      have hi : ¬ n ≤ k := fun q => hc (.inr q)
      simp [sLight, sLivesB, sScope, sCheckQ, sQuery, triA, triS, hq, hg, hw, hL, hQ, hC, hS, h1, h2, he, hi]
end
end Go.Proofs.YtgjljfbohpnfcaaGreat


/-
  layer 21: the law of columns.
-/
namespace Go.Proofs.YtgjljfbohpnfcaaGreat
open Go.RowKit
set_option linter.unusedSimpArgs false
set_option linter.unusedVariables false
set_option maxRecDepth 100000

theorem intro_now {b : Bn} {n : ByteArray} {k : Int} (h : (b.intro n k).e = 0) : b.e = 0 ∧ (b.intro n k).now = b.now ++ [⟨n, k⟩] := by
  unfold Bn.intro at h ⊢
  split
  · rename_i q
    rw [if_pos q] at h
    exact absurd (fail_e h).2 (by decide)
  · rename_i q
    rw [if_neg q] at h
    exact ⟨h, rfl⟩
theorem item_now {b : Bn} {x : Item} (h : (b.item x).e = 0) : (b.item x).now.map Cnt.Name = b.now.map Cnt.Name ++ [x.as_] := by
  unfold Bn.item at h ⊢
  dsimp only at h ⊢
  split at h
  · exact absurd (fail_e (intro_now h).1).2 (by decide)
  · rename_i q
    rw [if_neg q, (intro_now h).2, Bn.fail_now, List.map_append]
    rfl
theorem itemL_now : ∀ {l : List Item} {b : Bn}, (b.itemL l).e = 0 → (b.itemL l).now.map Cnt.Name = b.now.map Cnt.Name ++ l.map Item.as_
  | [], b, _ => by simp [Bn.itemL]
  | a :: r, b, h => by
    have h1 : ((b.item a).itemL r).e = 0 := h
    have h0 : (b.item a).e = 0 := by
      by_cases q : (b.item a).e = 0
      · exact q
      · exfalso
        have stay : ∀ (l : List Item) (c : Bn), c.e ≠ 0 → (c.itemL l).e ≠ 0 := fun l => by
          induction l with
          | nil => exact fun c hc => hc
          | cons x r ih => exact fun c hc => ih (c.item x) (by rw [bn_item_ne hc]; exact hc)
        exact stay r _ q h1
    show ((b.item a).itemL r).now.map Cnt.Name = _
    rw [itemL_now h1, item_now h0, List.map_cons, List.append_assoc]
    rfl
theorem sorts_now : ∀ {l : List SortK} {b : Bn}, (b.sorts l).now = b.now ∧ ((b.sorts l).e = 0 → b.e = 0)
  | [], b => ⟨rfl, id⟩
  | a :: r, b => by
    obtain ⟨h1, h2⟩ := sorts_now (l := r) (b := b.fail (checkX b.now a.e false))
    exact ⟨h1.trans (Bn.fail_now _ _), fun h => (fail_e (h2 h)).1⟩
theorem chks_now : ∀ {l : List Expr} {b : Bn}, (b.chks l).now = b.now ∧ ((b.chks l).e = 0 → b.e = 0)
  | [], b => ⟨rfl, id⟩
  | a :: r, b => by
    obtain ⟨h1, h2⟩ := chks_now (l := r) (b := b.fail (checkX b.now a false))
    exact ⟨h1.trans (Bn.fail_now _ _), fun h => (fail_e (h2 h)).1⟩
theorem clause_cols {b : Bn} {c : Clause} (hk : c.kind = 4) (h : (b.clause c).e = 0) : (b.clause c).now.map Cnt.Name = c.items.map Item.as_ := by
  have e1 : b.clause c = Bn.columns { b with old := b.now } c := by
    unfold Bn.clause
    rw [if_neg (by omega), if_neg (by omega), if_pos (.inr hk)]
  rw [e1] at h ⊢
  unfold Bn.columns at h ⊢
  have h1 := sorts_now.2 (chks_now.2 h)
  rw [chks_now.1, sorts_now.1, itemL_now h1]
  rfl
theorem goS_last : ∀ (l : List Clause) (b : Bn) (i : Nat), 0 < l.length → (goS b l i).2.2 = 0 → ∃ b', (Bn.clause b' (ix l (l.length - 1))).e = 0 ∧ (goS b l i).1 = (Bn.clause b' (ix l (l.length - 1))).now
  | [], b, i, h, _ => absurd h (by simp)
  | [c], b, i, _, h => by
    rw [goS] at h ⊢
    split at h
    · rename_i q; exact absurd h q
    · rename_i q
      rw [if_neg q]
      have q2 : (b.clause c).e = 0 := by simpa using q
      exact ⟨b, q2, rfl⟩
  | c :: d :: r, b, i, _, h => by
    rw [goS] at h ⊢
    split at h
    · rename_i q; exact absurd h q
    · rename_i q
      rw [if_neg q]
      have e1 : ix (c :: d :: r) ((c :: d :: r).length - 1) = ix (d :: r) ((d :: r).length - 1) := rfl
      rw [e1]
      exact goS_last (d :: r) _ _ (by simp) h
theorem scope_cols {q : Query} (he : (scopeF q q.clauses.length).2.2 = 0) (hk : (ix q.clauses (q.clauses.length - 1)).kind = 4) : (scopeF q q.clauses.length).1.map Cnt.Name = (ix q.clauses (q.clauses.length - 1)).items.map Item.as_ := by
  have h0 := scope_query he
  have hl := queryE_nil h0
  rw [scope_nat h0 (Nat.le_refl _), List.take_length] at he ⊢
  obtain ⟨b', h1, h2⟩ := goS_last _ _ _ hl he
  rw [h2]
  exact clause_cols hk h1

section
variable {m : Int}
noncomputable def CLc2 (m : Int) : Ctx := mkC Tryz.prog (G m) [(9, .pure sLight), (10, .pure sLivesB), (11, .pure sScope), (14, .pure sCheckQ)]
@[simp] theorem CLc2_P (m : Int) : (CLc2 m).P = Tryz.prog := rfl
@[simp] theorem CLc2_G (m : Int) : (CLc2 m).G = (G m) := rfl
@[simp] theorem CLc2_1 (m : Int) : (CLc2 m).S 9 = .pure sLight := rfl
@[simp] theorem CLc2_2 (m : Int) : (CLc2 m).S 10 = .pure sLivesB := rfl
@[simp] theorem CLc2_3 (m : Int) : (CLc2 m).S 11 = .pure sScope := rfl
@[simp] theorem CLc2_4 (m : Int) : (CLc2 m).S 14 = .pure sCheckQ := rfl
theorem mixCLc2 (m : Int) : (CLc2 m).P.follows .mixedOrders = true := mixed
theorem sigCLc2 (m : Int) : SigOK (CLc2 m) := sigOK_cons (entryPure (lightR) Tryz.func9 rfl (by decide)) (sigOK_cons (entryPure (livesB) Tryz.func10 rfl (by decide)) (sigOK_cons (entryPure (scopeP) Tryz.func11 rfl (by decide)) (sigOK_cons (entryPure (checkQP) Tryz.func14 rfl (by decide)) (sigOK_nil _ _))))
set_option maxHeartbeats 8000000 in
theorem lawColumns : PureOK Tryz.prog (G m) 8 (spec1 (fun (q : Query) => WfQS q ∧ GoodQ q) (fun _ => .bool true)) := by
  refine pureH1 (C := CLc2 m) (sigCLc2 m) (mixCLc2 m) Tryz.func8 rfl rfl rfl [16] (by kernel_rfl) (by decide) (fun q ⟨hq, hg⟩ => ?_)
  cases hL : lightB q
  · simp [sLight, sLivesB, hq, hL]
  obtain ⟨s, i, e, hS⟩ : ∃ s i e, scopeF q q.clauses.length = (s, i, e) := ⟨_, _, _, rfl⟩
  have hqe := fun h => queryE_nil (scope_query (q := q) (n := q.clauses.length) h)
  have hcol := fun h hk => scope_cols (q := q) h hk
  have hsl := scope_len q q.clauses.length
  rw [hS] at hqe hcol hsl
  simp only at hqe hcol hsl
  by_cases he : e = 0
  case neg =>
    have hC : checkQ q = ([], i, e) := by unfold checkQ; rw [hS]; simp only; rw [if_pos he]
    simp [sLight, sLivesB, sCheckQ, triS, hq, hg, hL, hC, he]
  subst he
  have h0 := hqe rfl
  have hql : q.clauses.length ≤ 9223372036854775807 := hg.1.1
  have i1 : I64 ((q.clauses.length : Int) - 1) := by unfold I64; omega
  have i2 : ((q.clauses.length : Int) - 1).toNat = q.clauses.length - 1 := by omega
  have i3 : q.clauses.length - 1 < q.clauses.length := by omega
  have i4 : (1 : Int) ≤ q.clauses.length := by omega
  have i5 : (q.clauses.length : Int) - 1 < q.clauses.length := by omega
  rcases em2 ((ix q.clauses (q.clauses.length - 1)).kind = 4) with hk | hk
  case inr =>
    have hC : checkQ q = ([], 0, 0) := by unfold checkQ; rw [hS]; simp only; rw [if_neg (by simp), if_neg (of_eq_false hk)]
    simp [sLight, sLivesB, sCheckQ, triS, hq, hg, hL, hC, i1, i2, i3, i4, i5, rowAt_enc i3, hk]
  have hC : checkQ q = (s.map Cnt.Name, 0, 0) := by unfold checkQ; rw [hS]; simp only; rw [if_neg (by simp), if_pos (of_eq_true hk)]
  have hc := hcol rfl (of_eq_true hk)
  generalize hlc : ix q.clauses (q.clauses.length - 1) = c at *
  have hlen : c.items.length = s.length := by
    have := congrArg List.length hc
    simpa using this.symm
  simp [sLight, sLivesB, sScope, sCheckQ, triA, triS, hq, hg, hL, hC, hS, i1, i2, i3, i4, i5, rowAt_enc i3, hk, hlc, hlen]
  refine loop_ruleH (C := CLc2 m) (sigCLc2 m) (mixCLc2 m) [16] (fun k : Nat => ⟨[(3, Enc.enc (s.map Cnt.Name)), (7, .ptr 1 1 21 0 0), (8, Enc.enc s), (11, .int .i64 k)], [QB q, CBk c]⟩) (fun k => k ≤ s.length) (fun k => s.length - k) (by kernel_rfl) ⟨0, Nat.zero_le _, weak_keep 2 (by simp) (by simp) (by simp [AV.clean, AV.clean1]) (by simp) (by simp [QB, CBk])⟩ (fun k hk2 => ?_)
  by_cases hlt : k < s.length
  · have j1 : I64 ((k : Int) + 1) := by unfold I64; omega
    have hl1 : k < (s.map Cnt.Name).length := by simpa using hlt
    have hl2 : k < c.items.length := by omega
    have n1 : ix (s.map Cnt.Name) k = (ix s k).Name := by rw [ix_lt hl1, ix_lt hlt, List.getElem_map]
    have n2 : (ix c.items k).as_ = (ix s k).Name := by
      rw [← n1, ix_lt hl1, ix_lt hl2]
      have : (c.items.map Item.as_)[k]'(by simpa using hl2) = (s.map Cnt.Name)[k] := by simp only [hc]
      rw [← this, List.getElem_map]
    simp [QB, CBk, hlt]
    refine AW_regionF (sigCLc2 m) (mixCLc2 m) [.pure, .pure, .pure, .read, .pure, .pure, .pure, .pure, .read, .pure, .pure, .pure, .pure, .pure, .read, .pure, .read, .pure, .pure, .pure, .read, .pure, .pure] [[],[],[1,0],[0,1,2],[],[],[5,4],[4,5,6],[6,5,4,7],[7,4,5,6,8,2,1,0,3],[3,0,1,2,8,6,5,4,7,9],[9,7,4,5,6,8,2,1,0,3,10],[9,7,4,5,6,8,2,1,0,3,10],[12,10,3,0,1,2,8,6,5,4,7,9,11],[11,9,7,4,5,6,8,2,1,0,3,10,12,13],[9,7,4,5,6,8,2,1,0,3,10],[10,3,0,1,2,8,6,5,4,7,9,15],[9,7,4,5,6,8,2,1,0,3,10],[17,15,9,7,4,5,6,8,2,1,0,3,10,16],[16,10,3,0,1,2,8,6,5,4,7,9,15,17,18],[18,17,15,9,7,4,5,6,8,2,1,0,3,10,16,19],[19,16,15,17,18,20,13,12,10,3,0,1,2,8,6,5,4,7,9,11,14],[14,11,12,13,20,18,17,15,16,19,21,9,7,4,5,6,8,2,1,0,3,10]] (by kernel_rfl) (by kernel_rfl) (by kernel_rfl) (by kernel_rfl) ?_
    simp [QB, CBk, hlt, hlen, rowAt_enc hlt, rowAt_enc hl1, rowAt_enc hl2, n1, n2, j1]
    exact ⟨k + 1, by omega, by omega, weak_keep 2 (by simp) (by simp) (by simp [AV.clean, AV.clean1]) (by simp) (by simp [QB, CBk])⟩
  · obtain rfl : k = s.length := by omega
    simp [QB, CBk, hlt, sLivesB]
end
end Go.Proofs.YtgjljfbohpnfcaaGreat


/-
  From the reading of an argument to a plain value, with how much it holds ('bulk').
-/
namespace Go.Proofs.YtgjljfbohpnfcaaGreat
open Go.RowKit Go.WideShapes Go.ChangeShapes
set_option linter.unusedSimpArgs false
set_option linter.unusedVariables false

theorem bulk_one {H : Type} (d : DataW H) : 1 ≤ Rows.uptoBulk d := by
  cases d with
  | lit l => cases l <;> simp [Rows.uptoBulk]
  | _ => simp [Rows.uptoBulk]
def ReadsU (P : Program) (n : Nat) (t : TypeId) (α : Type) [Enc α] (wf : α → Prop) (bulk : α → Nat) : Prop :=
  ∀ {H : Type} (enc : TypeId × Value → H) (w : World) (held : Bool) (cs : List Value) (x : DataW H × List MemPlace), DataW.trod enc P w 0 (fun _ => true) held n t cs = some x → ∃ a : α, wf a ∧ CellsD w cs (Enc.cells a) ∧ bulk a ≤ Rows.uptoBulk x.1
theorem readsU_one {P : Program} {n : Nat} {t : TypeId} {α : Type} [Enc α] {wf : α → Prop} (h : ReadsAt P n t α wf) : ReadsU P n t α wf (fun _ => 1) := fun enc w held cs x hx => by
  obtain ⟨a, h1, h2⟩ := h enc w held cs x hx
  exact ⟨a, h1, h2, bulk_one _⟩
def bulkS (s : ByteArray) : Nat := s.size + 1
theorem readsU_str {P : Program} {n : Nat} {t : TypeId} (h : strT P t = true) : ReadsU P n t ByteArray (fun s => s.size ≤ maxLen) bulkS := by
  intro H enc w held cs x hx
  cases n with
  | zero => simp [DataW.trod] at hx
  | succ n =>
    unfold DataW.trod at hx
    rw [strT_eq h] at hx
    have key : ∃ s : ByteArray, cs = [.string s] ∧ s.size ≤ maxLen ∧ x.1 = .lit (.string s.data.toList) := by
      split at hx <;> simp_all
      first | exact hx.2 ▸ rfl | (obtain ⟨_, rfl⟩ := hx; rfl) | (rw [← hx.2]) | (subst_vars; simp)
    obtain ⟨s, rfl, hs, hx1⟩ := key
    refine ⟨s, hs, CellsD.one (.str _) rfl, ?_⟩
    rw [hx1]
    simp [Rows.uptoBulk, bulkS]

theorem bulk_sum {H : Type} : ∀ (l : List (DataW H × List MemPlace)) (f : Nat → Nat), (∀ i (h : i < l.length), f i ≤ Rows.uptoBulk (l[i]).1) → ((List.range l.length).map f).sum ≤ Rows.uptoBulkAll (l.map (·.1))
  | [], f, _ => by simp [Rows.uptoBulkAll]
  | x :: r, f, h => by
    have h1 := bulk_sum r (fun i => f (i + 1)) (fun i hi => by
      have := h (i + 1) (by simp; omega)
      simpa using this)
    have h2 := h 0 (by simp)
    simp only [List.length_cons, List.range_succ_eq_map, List.map_cons, List.sum_cons, List.map_map, Rows.uptoBulkAll]
    simp only [List.getElem_cons_zero] at h2
    have e : (f ∘ Nat.succ) = fun i => f (i + 1) := rfl
    rw [e]
    omega

section
variable {P : Program} {n : Nat} {t e : TypeId}
def bulkL {α : Type} (bulk : α → Nat) (l : List α) : Nat := (l.map bulk).sum + 1
theorem readsU_list {α : Type} [Enc α] [Inhabited α] {wf : α → Prop} {bulk : α → Nat} (h : elT P t = some e) (hz : szT P e = Enc.sz α) (hp : 0 < szT P e) (he : ReadsU P n e α wf bulk) : ReadsU P (n + 1) t (List α) (WfL wf) (bulkL bulk) := by
  intro H enc w held cs x hx
  rcases DataW.trod_slice (elT_eq h) hx with ⟨rfl, rfl⟩ | ⟨a, len, cap, elems, rest, m, hm, rfl, hxe, _, hl, hc, hlen, hel, _, _⟩
  · refine ⟨[], ⟨Nat.zero_le _, by simp⟩, CellsD.one ?_ rfl, by simp [bulkL, Rows.uptoBulk]⟩
    exact .slice _ false [] none 0 0 (fun _ _ => undef) rfl (Nat.le_refl _) (Nat.zero_le _) (fun h => by cases h) (fun r h => by cases h) (fun h => absurd rfl h) (fun i j r v h => by simp at h)
  · obtain rfl : n = m := by omega
    obtain ⟨V, hV⟩ := Go.Deep.choose_lt (n := len) (p := fun i (y : α × List Value) => (wf y.1 ∧ ∀ (hi : i < elems.length), bulk y.1 ≤ Rows.uptoBulk (elems[i]).1) ∧ w.cells? 0 (a.add (i * szT P e)) (szT P e) = some y.2 ∧ CellsD w y.2 (Enc.cells y.1)) (fun i hi => by
      have := hel i hi
      rw [List.getElem?_eq_getElem (by omega)] at this
      obtain ⟨cs', h1, h2⟩ := Option.bind_eq_some_iff.1 this
      obtain ⟨y, hy, hcd, hb⟩ := he enc w held cs' _ h2
      exact ⟨(y, cs'), ⟨hy, fun _ => hb⟩, h1, hcd⟩)
    refine ⟨(List.range len).map fun i => (V i).1, ⟨by simp; omega, fun y hy => ?_⟩, CellsD.one ?_ rfl, ?_⟩
    · obtain ⟨i, hi, rfl⟩ := List.mem_map.1 hy
      exact (hV i (List.mem_range.1 hi)).1.1
    · have hcell : ∀ i j, i < len → j < szT P e → ∃ v, w.cell? (a.add (i * szT P e + j)) = some v ∧ (V i).2[j]? = some v := by
        intro i j hi hj
        obtain ⟨_, h2, _⟩ := hV i hi
        obtain ⟨_, h3, h4⟩ := World.cells?_some h2
        have := h4 j hj
        rw [Go.Deep.add_add] at this
        rw [List.getElem?_eq_getElem (by omega)] at this ⊢
        exact ⟨_, this, rfl⟩
      have hsz : ∀ i, i < len → (Enc.cells (V i).1).length = Enc.sz α := by
        intro i hi
        obtain ⟨_, h2, h3⟩ := hV i hi
        obtain ⟨_, h4, _⟩ := World.cells?_some h2
        rw [← h3.1, h4, hz]
      refine .slice _ false _ (some a) len cap (fun i j => ((V i).2[j]?).getD undef) (by simp) (by simpa using hl) hc (fun h => by cases h) (fun r hr => ?_) (fun h0 => ?_) (fun i j r v hr hv => ?_)
      · simp only [List.map_map, List.mem_map, List.mem_range, Function.comp_apply] at hr
        obtain ⟨i, hi, rfl⟩ := hr
        exact hsz i hi
      · have h0' : 0 < len := by simp at h0; omega
        obtain ⟨v0, hv0, _⟩ := hcell 0 0 h0' (by omega)
        simp only [Nat.zero_mul, Nat.zero_add] at hv0
        obtain ⟨b, off, rfl⟩ := addr_plainA (by simpa [Addr.add] using hv0 : w.cell? a = some v0)
        refine ⟨b, off, rfl, ?_, id, fun i j hi hj => ?_⟩
        · have := World.block_lt_of_cell? w _ hv0
          simpa [Addr.add] using this
        · have hi' : i < len := by simpa using hi
          rw [← hz] at hj
          obtain ⟨v, hv, hv'⟩ := hcell i j hi' hj
          rw [hv', ← hz]
          have e : (⟨b, off, none⟩ : Addr).add (i * szT P e + j) = ⟨b, off + i * szT P e + j, none⟩ := by
            unfold Addr.add
            split
            · rename_i h; rw [Nat.add_assoc, h]; rfl
            · simp [Nat.add_assoc]
          rw [e] at hv
          refine ⟨hv, ?_⟩
          obtain ⟨_, _, h3⟩ := hV i hi'
          obtain ⟨u, hu, h1, _⟩ := h3.2 j _ (List.getElem?_eq_getElem (by rw [hsz i hi', ← hz]; exact hj))
          rw [hv'] at hu
          injection hu with hu
          subst hu
          exact h1
      · simp only [List.map_map, List.getElem?_map, Option.map_eq_some_iff, Function.comp_apply] at hr
        obtain ⟨i', hi', rfl⟩ := hr
        have hlt : i < len := by have := (List.getElem?_eq_some_iff.1 hi').1; simpa using this
        rw [List.getElem?_range hlt] at hi'
        injection hi' with hi'
        subst hi'
        obtain ⟨_, _, h3⟩ := hV i hlt
        obtain ⟨u, hu, _, h4⟩ := h3.2 j v hv
        rw [hu]
        exact h4
    · rw [hxe]
      have := bulk_sum elems (fun i => bulk (V i).1) (fun i hi => (hV i (by omega)).1.2 hi)
      rw [hlen] at this
      simp only [Rows.uptoBulk, bulkL, List.map_map]
      have e : (bulk ∘ fun i => (V i).1) = fun i => bulk (V i).1 := rfl
      rw [e]
      omega

def pick {H : Type} (xs : List (DataW H × List MemPlace)) (k : Nat) : Nat := match xs[k]? with | some y => Rows.uptoBulk y.1 | none => 0
theorem pick_sum {H : Type} : ∀ (n : Nat) (xs : List (DataW H × List MemPlace)), ((List.range n).map (pick xs)).sum ≤ Rows.uptoBulkAll (xs.map (·.1))
  | 0, xs => by simp
  | n + 1, [] => by
    have e : pick ([] : List (DataW H × List MemPlace)) = fun _ => 0 := by funext k; simp [pick]
    rw [e]
    have : ∀ l : List Nat, (l.map fun _ => 0).sum = 0 := fun l => by induction l with
      | nil => rfl
      | cons x r ih => simp [ih]
    rw [this]
    exact Nat.zero_le _
  | n + 1, x :: r => by
    have h := pick_sum n r
    have e : (pick (x :: r) ∘ Nat.succ) = pick r := by funext k; simp [pick]
    have e0 : pick (x :: r) 0 = Rows.uptoBulk x.1 := by simp [pick]
    simp only [List.range_succ_eq_map, List.map_cons, List.sum_cons, List.map_map, e, e0, Rows.uptoBulkAll]
    omega
theorem structU {H : Type} {enc : TypeId × Value → H} {w : World} {held : Bool} {cs : List Value} {x : DataW H × List MemPlace} (hs : ∃ fs, P.underlying t = some (.struct fs)) (h : DataW.trod enc P w 0 (fun _ => true) held n t cs = some x) :
    ∃ (m : Nat) (xs : List (DataW H × List MemPlace)), n = m + 1 ∧ cs.length = szT P t ∧ (∀ k, ((List.range k).map (pick xs)).sum + 1 ≤ Rows.uptoBulk x.1) ∧ ∀ k off ty, fldT P t k = some (off, ty) → ∃ y, pick xs k = Rows.uptoBulk y.1 ∧ DataW.trod enc P w 0 (fun _ => true) held m ty ((cs.drop off).take (szT P ty)) = some y := by
  obtain ⟨fs, ht⟩ := hs
  obtain ⟨xs, m, hm, hx, hl, hlen, hf⟩ := DataW.trod_struct ht h
  refine ⟨m, xs, hm, hl, fun k => ?_, fun k off ty hk => ?_⟩
  · rw [hx]
    have := pick_sum k xs
    simp only [Rows.uptoBulk]
    omega
  · obtain ⟨fs', f, h1, h2, rfl, rfl⟩ := fldT_eq hk
    rw [ht] at h1
    injection h1 with h1
    injection h1 with h1
    subst h1
    have := hf k f h2
    have hk : k < xs.length := by have := (Array.getElem?_eq_some_iff.1 h2).1; omega
    rw [List.getElem?_eq_getElem hk] at this
    exact ⟨_, by simp [pick, hk], this⟩

theorem ReadsU.struct {α : Type} [Enc α] {wf : α → Prop} {bulk : α → Nat} {H : Type} {enc : TypeId × Value → H} {w : World} {held : Bool} {v : Value} {d : DataW H} {p : List MemPlace} (R : ∀ n, ReadsU P n t α wf bulk) (hE : ∀ a : α, Enc.enc a = .agg (Enc.cells a)) {r : Reach} {b0 : Nat} (ht : ∃ fs, P.underlying t = some (.struct fs)) (hv : Value.okWide P w r b0 t v) (h : DataW.Trod enc P w 0 (fun _ => true) held t v d p) : ∃ a : α, wf a ∧ RepD w (fun _ => False) v (Enc.enc a) ∧ bulk a ≤ Rows.uptoBulk d := by
  obtain ⟨fs, ht⟩ := ht
  obtain ⟨cs, rfl, _⟩ := okWide_struct ht hv
  obtain ⟨n, h⟩ := h
  obtain ⟨a, ha, hc, hb⟩ := R n enc w held _ _ h
  refine ⟨a, ha, ?_, hb⟩
  rw [hE a]
  obtain ⟨h1, h2⟩ := hc
  simp only [Value.cells] at h1 h2
  refine .agg cs _ (fun j => (cs[j]?).getD undef) (by simpa using h1) (fun j hj => ?_) (fun j u hu => ?_)
  · obtain ⟨u, hu, h3, _⟩ := h2 j _ (List.getElem?_eq_getElem hj)
    have hu : cs[j]? = some u := by simpa using hu
    rw [hu]
    exact ⟨rfl, h3⟩
  · obtain ⟨u', hu', _, h4⟩ := h2 j u hu
    have hu' : cs[j]? = some u' := by simpa using hu'
    rw [hu']
    exact h4
end
end Go.Proofs.YtgjljfbohpnfcaaGreat


/-
  layer 18: an argument that is an expression reads as a plain expression.
-/
namespace Go.Proofs.YtgjljfbohpnfcaaGreat
open Go.RowKit Go.WideShapes Go.ChangeShapes
set_option linter.unusedSimpArgs false
set_option linter.unusedVariables false
set_option maxRecDepth 100000

mutual
def bulkV : Val → Nat
  | .mk _ _ _ s l => bulkVs l + s.size + 6
def bulkVs : List Val → Nat
  | [] => 0
  | v :: r => bulkV v + bulkVs r
end
theorem bulkVs_sum : ∀ l : List Val, bulkVs l = (l.map bulkV).sum
  | [] => rfl
  | v :: r => by rw [bulkVs, bulkVs_sum r]; rfl
mutual
def bulkE : Expr → Nat
  | .mk _ v n _ k => bulkEs k + bulkV v + n.size + 5
def bulkEs : List Expr → Nat
  | [] => 0
  | v :: r => bulkE v + bulkEs r
end
theorem bulkEs_sum : ∀ l : List Expr, bulkEs l = (l.map bulkE).sum
  | [] => rfl
  | v :: r => by rw [bulkEs, bulkEs_sum r]; rfl

section
variable {H : Type} {enc : TypeId × Value → H} {w : World} {held : Bool}
theorem trod_pos {P : Program} {n : Nat} {t : TypeId} {cs : List Value} {x : DataW H × List MemPlace} (h : DataW.trod enc P w 0 (fun _ => true) held n t cs = some x) : ∃ m, n = m + 1 := by
  cases n with
  | zero => simp [DataW.trod] at h
  | succ n => exact ⟨n, rfl⟩
end

theorem readsU_val : ∀ n, ReadsU Tryz.prog n 39 Val WfV bulkV := by
  intro n
  induction n using Nat.strongRecOn with
  | _ n ih =>
    intro H enc w held cs x hx
    obtain ⟨m, xs, rfl, hl, hb, hf⟩ := structU ⟨_, rfl⟩ hx
    obtain ⟨y0, b0, t0⟩ := hf 0 0 3 (by kernel_rfl)
    obtain ⟨y1, b1, t1⟩ := hf 1 1 3 (by kernel_rfl)
    obtain ⟨y2, b2, t2⟩ := hf 2 2 3 (by kernel_rfl)
    obtain ⟨y3, b3, t3⟩ := hf 3 3 9 (by kernel_rfl)
    obtain ⟨y4, b4, t4⟩ := hf 4 4 37 (by kernel_rfl)
    obtain ⟨k, _, c0, u0⟩ := readsU_one (readsAt_int (by kernel_rfl)) enc w held _ _ t0
    obtain ⟨nn, _, c1, u1⟩ := readsU_one (readsAt_int (by kernel_rfl)) enc w held _ _ t1
    obtain ⟨d, _, c2, u2⟩ := readsU_one (readsAt_int (by kernel_rfl)) enc w held _ _ t2
    obtain ⟨s, w3, c3, u3⟩ := readsU_str (by kernel_rfl) enc w held _ _ t3
    obtain ⟨m', rfl⟩ := trod_pos t4
    obtain ⟨l, ⟨w4, w5⟩, c4, u4⟩ := readsU_list (e := 39) (by kernel_rfl) (by kernel_rfl) (of_decide_eq_true (by kernel_rfl)) (ih m' (by omega)) enc w held _ _ t4
    refine ⟨.mk k nn d s l, .mk _ _ _ _ _ w3 w4 w5, ?_, ?_⟩
    · rw [cells_val]
      exact CellsD.split (o := 0) (s := 1) c0 (CellsD.split (s := 1) c1 (CellsD.split (s := 1) c2 (CellsD.split (s := 1) c3 (CellsD.split (s := 1) c4 (CellsD.last (by rw [hl, show szT Tryz.prog 39 = 5 by kernel_rfl]; decide))))))
    · have h5 := hb 5
      have u0 : 1 ≤ Rows.uptoBulk y0.1 := u0
      have u1 : 1 ≤ Rows.uptoBulk y1.1 := u1
      have u2 : 1 ≤ Rows.uptoBulk y2.1 := u2
      simp [List.range_succ, b0, b1, b2, b3, b4] at h5
      simp only [bulkV, bulkVs_sum, bulkS, bulkL] at u3 u4 ⊢
      omega

theorem readsU_expr : ∀ n, ReadsU Tryz.prog n 42 Expr WfE bulkE := by
  intro n
  induction n using Nat.strongRecOn with
  | _ n ih =>
    intro H enc w held cs x hx
    obtain ⟨m, xs, rfl, hl, hb, hf⟩ := structU ⟨_, rfl⟩ hx
    obtain ⟨y0, b0, t0⟩ := hf 0 0 3 (by kernel_rfl)
    obtain ⟨y1, b1, t1⟩ := hf 1 1 39 (by kernel_rfl)
    obtain ⟨y2, b2, t2⟩ := hf 2 6 9 (by kernel_rfl)
    obtain ⟨y3, b3, t3⟩ := hf 3 7 4 (by kernel_rfl)
    obtain ⟨y4, b4, t4⟩ := hf 4 8 40 (by kernel_rfl)
    obtain ⟨o, _, c0, u0⟩ := readsU_one (readsAt_int (by kernel_rfl)) enc w held _ _ t0
    obtain ⟨v, w1, c1, u1⟩ := readsU_val _ enc w held _ _ t1
    obtain ⟨s, w2, c2, u2⟩ := readsU_str (by kernel_rfl) enc w held _ _ t2
    obtain ⟨d, _, c3, u3⟩ := readsU_one (readsAt_bool (by kernel_rfl)) enc w held _ _ t3
    obtain ⟨m', rfl⟩ := trod_pos t4
    obtain ⟨l, ⟨w4, w5⟩, c4, u4⟩ := readsU_list (e := 42) (by kernel_rfl) (by kernel_rfl) (of_decide_eq_true (by kernel_rfl)) (ih m' (by omega)) enc w held _ _ t4
    refine ⟨.mk o v s d l, .mk _ _ _ _ _ w1 w2 w4 w5, ?_, ?_⟩
    · have e : Enc.cells (Expr.mk o v s d l) = Enc.cells o ++ (Enc.cells v ++ (Enc.cells s ++ (Enc.cells d ++ (Enc.cells l ++ [])))) := by
        rw [cells_expr, cells_val]
        rfl
      rw [e]
      exact CellsD.split (o := 0) (s := 1) c0 (CellsD.split (s := 5) c1 (CellsD.split (s := 1) c2 (CellsD.split (s := 1) c3 (CellsD.split (s := 1) c4 (CellsD.last (by rw [hl, show szT Tryz.prog 42 = 9 by kernel_rfl]; decide))))))
    · have h5 := hb 5
      have u0 : 1 ≤ Rows.uptoBulk y0.1 := u0
      have u3 : 1 ≤ Rows.uptoBulk y3.1 := u3
      simp [List.range_succ, b0, b1, b2, b3, b4] at h5
      simp only [bulkE, bulkEs_sum, bulkS, bulkL] at u2 u4 ⊢
      omega
end Go.Proofs.YtgjljfbohpnfcaaGreat


/-
  layer 18: arguments that are patterns, clauses and queries read as plain values. Printed by genq.py.
-/
namespace Go.Proofs.YtgjljfbohpnfcaaGreat
open Go.RowKit Go.WideShapes Go.ChangeShapes
set_option linter.unusedSimpArgs false
set_option linter.unusedVariables false
set_option maxRecDepth 100000

def Ws (s : ByteArray) : Prop := s.size ≤ maxLen
theorem readsU_list' {P : Program} {n : Nat} {t e : TypeId} {α : Type} [Enc α] [Inhabited α] {wf : α → Prop} {bulk : α → Nat} (h : elT P t = some e) (hz : szT P e = Enc.sz α) (hp : 0 < szT P e) (he : ∀ n, ReadsU P n e α wf bulk) : ReadsU P n t (List α) (WfL wf) (bulkL bulk) := by
  cases n with
  | zero => intro H enc w held cs x hx; simp [DataW.trod] at hx
  | succ n => exact readsU_list h hz hp (he n)
theorem readsU_s : ∀ n, ReadsU Tryz.prog n 9 ByteArray Ws bulkS := fun _ => readsU_str (by kernel_rfl)
def bulkQ (x : PropPat) : Nat := bulkS x.key + bulkE x.e + 1
theorem readsU_PropPat : ∀ n, ReadsU Tryz.prog n 72 PropPat WfQ bulkQ := by
  intro n H enc w held cs x hx
  obtain ⟨m, xs, rfl, hl, hb, hf⟩ := structU ⟨_, rfl⟩ hx
  obtain ⟨y0, b0, t0⟩ := hf 0 0 9 (by kernel_rfl)
  obtain ⟨y1, b1, t1⟩ := hf 1 1 42 (by kernel_rfl)
  obtain ⟨a0, w0, c0, u0⟩ := (readsU_s _) enc w held _ _ t0
  obtain ⟨a1, w1, c1, u1⟩ := (readsU_expr _) enc w held _ _ t1
  refine ⟨⟨a0, a1⟩, ⟨w0, w1⟩, ?_, ?_⟩
  · have e : Enc.cells (⟨a0, a1⟩ : PropPat) = Enc.cells a0 ++ (Enc.cells a1 ++ ([])) := by
      rw [cells_expr a1]
      rfl
    rw [e]
    exact CellsD.split (o := 0) (s := 1) c0 (CellsD.split (s := 9) c1 (CellsD.last (by rw [hl, show szT Tryz.prog 72 = 10 by kernel_rfl]; decide)))
  · have h5 := hb 2
    simp [List.range_succ, b0, b1] at h5
    simp only [bulkQ]
    omega
def W0N (x : NodePat) : Prop := Ws x.var ∧ WfL Ws x.labels ∧ WfL WfQ x.props
def bulkN (x : NodePat) : Nat := bulkS x.var + bulkL bulkS x.labels + bulkL bulkQ x.props + 1
theorem readsU_NodePat : ∀ n, ReadsU Tryz.prog n 64 NodePat W0N bulkN := by
  intro n H enc w held cs x hx
  obtain ⟨m, xs, rfl, hl, hb, hf⟩ := structU ⟨_, rfl⟩ hx
  obtain ⟨y0, b0, t0⟩ := hf 0 0 9 (by kernel_rfl)
  obtain ⟨y1, b1, t1⟩ := hf 1 1 33 (by kernel_rfl)
  obtain ⟨y2, b2, t2⟩ := hf 2 2 62 (by kernel_rfl)
  obtain ⟨a0, w0, c0, u0⟩ := (readsU_s _) enc w held _ _ t0
  obtain ⟨a1, w1, c1, u1⟩ := (readsU_list' (e := 9) (by kernel_rfl) (by kernel_rfl) (of_decide_eq_true (by kernel_rfl)) readsU_s) enc w held _ _ t1
  obtain ⟨a2, w2, c2, u2⟩ := (readsU_list' (e := 72) (by kernel_rfl) (by kernel_rfl) (of_decide_eq_true (by kernel_rfl)) readsU_PropPat) enc w held _ _ t2
  refine ⟨⟨a0, a1, a2⟩, ⟨w0, w1, w2⟩, ?_, ?_⟩
  · have e : Enc.cells (⟨a0, a1, a2⟩ : NodePat) = Enc.cells a0 ++ (Enc.cells a1 ++ (Enc.cells a2 ++ ([]))) := by
      rfl
    rw [e]
    exact CellsD.split (o := 0) (s := 1) c0 (CellsD.split (s := 1) c1 (CellsD.split (s := 1) c2 (CellsD.last (by rw [hl, show szT Tryz.prog 64 = 3 by kernel_rfl]; decide))))
  · have h5 := hb 3
    simp [List.range_succ, b0, b1, b2] at h5
    simp only [bulkN]
    omega
def W0G (x : EdgePat) : Prop := Ws x.var ∧ WfL Ws x.types ∧ WfL WfQ x.props
def bulkG (x : EdgePat) : Nat := bulkS x.var + bulkL bulkS x.types + 1 + 1 + 1 + 1 + bulkL bulkQ x.props + 1
theorem readsU_EdgePat : ∀ n, ReadsU Tryz.prog n 67 EdgePat W0G bulkG := by
  intro n H enc w held cs x hx
  obtain ⟨m, xs, rfl, hl, hb, hf⟩ := structU ⟨_, rfl⟩ hx
  obtain ⟨y0, b0, t0⟩ := hf 0 0 9 (by kernel_rfl)
  obtain ⟨y1, b1, t1⟩ := hf 1 1 33 (by kernel_rfl)
  obtain ⟨y2, b2, t2⟩ := hf 2 2 3 (by kernel_rfl)
  obtain ⟨y3, b3, t3⟩ := hf 3 3 3 (by kernel_rfl)
  obtain ⟨y4, b4, t4⟩ := hf 4 4 3 (by kernel_rfl)
  obtain ⟨y5, b5, t5⟩ := hf 5 5 3 (by kernel_rfl)
  obtain ⟨y6, b6, t6⟩ := hf 6 6 62 (by kernel_rfl)
  obtain ⟨a0, w0, c0, u0⟩ := (readsU_s _) enc w held _ _ t0
  obtain ⟨a1, w1, c1, u1⟩ := (readsU_list' (e := 9) (by kernel_rfl) (by kernel_rfl) (of_decide_eq_true (by kernel_rfl)) readsU_s) enc w held _ _ t1
  obtain ⟨a2, w2, c2, u2⟩ := (readsU_one (readsAt_int (by kernel_rfl))) enc w held _ _ t2
  have u2 : 1 ≤ Rows.uptoBulk y2.1 := u2
  obtain ⟨a3, w3, c3, u3⟩ := (readsU_one (readsAt_int (by kernel_rfl))) enc w held _ _ t3
  have u3 : 1 ≤ Rows.uptoBulk y3.1 := u3
  obtain ⟨a4, w4, c4, u4⟩ := (readsU_one (readsAt_int (by kernel_rfl))) enc w held _ _ t4
  have u4 : 1 ≤ Rows.uptoBulk y4.1 := u4
  obtain ⟨a5, w5, c5, u5⟩ := (readsU_one (readsAt_int (by kernel_rfl))) enc w held _ _ t5
  have u5 : 1 ≤ Rows.uptoBulk y5.1 := u5
  obtain ⟨a6, w6, c6, u6⟩ := (readsU_list' (e := 72) (by kernel_rfl) (by kernel_rfl) (of_decide_eq_true (by kernel_rfl)) readsU_PropPat) enc w held _ _ t6
  refine ⟨⟨a0, a1, a2, a3, a4, a5, a6⟩, ⟨w0, w1, w6⟩, ?_, ?_⟩
  · have e : Enc.cells (⟨a0, a1, a2, a3, a4, a5, a6⟩ : EdgePat) = Enc.cells a0 ++ (Enc.cells a1 ++ (Enc.cells a2 ++ (Enc.cells a3 ++ (Enc.cells a4 ++ (Enc.cells a5 ++ (Enc.cells a6 ++ ([]))))))) := by
      rfl
    rw [e]
    exact CellsD.split (o := 0) (s := 1) c0 (CellsD.split (s := 1) c1 (CellsD.split (s := 1) c2 (CellsD.split (s := 1) c3 (CellsD.split (s := 1) c4 (CellsD.split (s := 1) c5 (CellsD.split (s := 1) c6 (CellsD.last (by rw [hl, show szT Tryz.prog 67 = 7 by kernel_rfl]; decide))))))))
  · have h5 := hb 7
    simp [List.range_succ, b0, b1, b2, b3, b4, b5, b6] at h5
    simp only [bulkG]
    omega
def W0P (x : PathPat) : Prop := Ws x.var ∧ WfL W0N x.nodes ∧ WfL W0G x.edges
def bulkP (x : PathPat) : Nat := bulkS x.var + bulkL bulkN x.nodes + bulkL bulkG x.edges + 1
theorem readsU_PathPat : ∀ n, ReadsU Tryz.prog n 70 PathPat W0P bulkP := by
  intro n H enc w held cs x hx
  obtain ⟨m, xs, rfl, hl, hb, hf⟩ := structU ⟨_, rfl⟩ hx
  obtain ⟨y0, b0, t0⟩ := hf 0 0 9 (by kernel_rfl)
  obtain ⟨y1, b1, t1⟩ := hf 1 1 65 (by kernel_rfl)
  obtain ⟨y2, b2, t2⟩ := hf 2 2 68 (by kernel_rfl)
  obtain ⟨a0, w0, c0, u0⟩ := (readsU_s _) enc w held _ _ t0
  obtain ⟨a1, w1, c1, u1⟩ := (readsU_list' (e := 64) (by kernel_rfl) (by kernel_rfl) (of_decide_eq_true (by kernel_rfl)) readsU_NodePat) enc w held _ _ t1
  obtain ⟨a2, w2, c2, u2⟩ := (readsU_list' (e := 67) (by kernel_rfl) (by kernel_rfl) (of_decide_eq_true (by kernel_rfl)) readsU_EdgePat) enc w held _ _ t2
  refine ⟨⟨a0, a1, a2⟩, ⟨w0, w1, w2⟩, ?_, ?_⟩
  · have e : Enc.cells (⟨a0, a1, a2⟩ : PathPat) = Enc.cells a0 ++ (Enc.cells a1 ++ (Enc.cells a2 ++ ([]))) := by
      rfl
    rw [e]
    exact CellsD.split (o := 0) (s := 1) c0 (CellsD.split (s := 1) c1 (CellsD.split (s := 1) c2 (CellsD.last (by rw [hl, show szT Tryz.prog 70 = 3 by kernel_rfl]; decide))))
  · have h5 := hb 3
    simp [List.range_succ, b0, b1, b2] at h5
    simp only [bulkP]
    omega
def W0I (x : Item) : Prop := WfE x.e ∧ Ws x.as_
def bulkI (x : Item) : Nat := bulkE x.e + bulkS x.as_ + 1
theorem readsU_Item : ∀ n, ReadsU Tryz.prog n 59 Item W0I bulkI := by
  intro n H enc w held cs x hx
  obtain ⟨m, xs, rfl, hl, hb, hf⟩ := structU ⟨_, rfl⟩ hx
  obtain ⟨y0, b0, t0⟩ := hf 0 0 42 (by kernel_rfl)
  obtain ⟨y1, b1, t1⟩ := hf 1 9 9 (by kernel_rfl)
  obtain ⟨a0, w0, c0, u0⟩ := (readsU_expr _) enc w held _ _ t0
  obtain ⟨a1, w1, c1, u1⟩ := (readsU_s _) enc w held _ _ t1
  refine ⟨⟨a0, a1⟩, ⟨w0, w1⟩, ?_, ?_⟩
  · have e : Enc.cells (⟨a0, a1⟩ : Item) = Enc.cells a0 ++ (Enc.cells a1 ++ ([])) := by
      rw [cells_expr a0]
      rfl
    rw [e]
    exact CellsD.split (o := 0) (s := 9) c0 (CellsD.split (s := 1) c1 (CellsD.last (by rw [hl, show szT Tryz.prog 59 = 10 by kernel_rfl]; decide)))
  · have h5 := hb 2
    simp [List.range_succ, b0, b1] at h5
    simp only [bulkI]
    omega
def W0S (x : SortK) : Prop := WfE x.e
def bulkT (x : SortK) : Nat := bulkE x.e + 1 + 1
theorem readsU_SortK : ∀ n, ReadsU Tryz.prog n 90 SortK W0S bulkT := by
  intro n H enc w held cs x hx
  obtain ⟨m, xs, rfl, hl, hb, hf⟩ := structU ⟨_, rfl⟩ hx
  obtain ⟨y0, b0, t0⟩ := hf 0 0 42 (by kernel_rfl)
  obtain ⟨y1, b1, t1⟩ := hf 1 9 4 (by kernel_rfl)
  obtain ⟨a0, w0, c0, u0⟩ := (readsU_expr _) enc w held _ _ t0
  obtain ⟨a1, w1, c1, u1⟩ := (readsU_one (readsAt_bool (by kernel_rfl))) enc w held _ _ t1
  have u1 : 1 ≤ Rows.uptoBulk y1.1 := u1
  refine ⟨⟨a0, a1⟩, w0, ?_, ?_⟩
  · have e : Enc.cells (⟨a0, a1⟩ : SortK) = Enc.cells a0 ++ (Enc.cells a1 ++ ([])) := by
      rw [cells_expr a0]
      rfl
    rw [e]
    exact CellsD.split (o := 0) (s := 9) c0 (CellsD.split (s := 1) c1 (CellsD.last (by rw [hl, show szT Tryz.prog 90 = 10 by kernel_rfl]; decide)))
  · have h5 := hb 2
    simp [List.range_succ, b0, b1] at h5
    simp only [bulkT]
    omega
def W0T (x : SetI) : Prop := Ws x.var ∧ Ws x.key ∧ Ws x.label ∧ WfE x.e
def bulkU (x : SetI) : Nat := bulkS x.var + bulkS x.key + bulkS x.label + 1 + bulkE x.e + 1
theorem readsU_SetI : ∀ n, ReadsU Tryz.prog n 92 SetI W0T bulkU := by
  intro n H enc w held cs x hx
  obtain ⟨m, xs, rfl, hl, hb, hf⟩ := structU ⟨_, rfl⟩ hx
  obtain ⟨y0, b0, t0⟩ := hf 0 0 9 (by kernel_rfl)
  obtain ⟨y1, b1, t1⟩ := hf 1 1 9 (by kernel_rfl)
  obtain ⟨y2, b2, t2⟩ := hf 2 2 9 (by kernel_rfl)
  obtain ⟨y3, b3, t3⟩ := hf 3 3 4 (by kernel_rfl)
  obtain ⟨y4, b4, t4⟩ := hf 4 4 42 (by kernel_rfl)
  obtain ⟨a0, w0, c0, u0⟩ := (readsU_s _) enc w held _ _ t0
  obtain ⟨a1, w1, c1, u1⟩ := (readsU_s _) enc w held _ _ t1
  obtain ⟨a2, w2, c2, u2⟩ := (readsU_s _) enc w held _ _ t2
  obtain ⟨a3, w3, c3, u3⟩ := (readsU_one (readsAt_bool (by kernel_rfl))) enc w held _ _ t3
  have u3 : 1 ≤ Rows.uptoBulk y3.1 := u3
  obtain ⟨a4, w4, c4, u4⟩ := (readsU_expr _) enc w held _ _ t4
  refine ⟨⟨a0, a1, a2, a3, a4⟩, ⟨w0, w1, w2, w4⟩, ?_, ?_⟩
  · have e : Enc.cells (⟨a0, a1, a2, a3, a4⟩ : SetI) = Enc.cells a0 ++ (Enc.cells a1 ++ (Enc.cells a2 ++ (Enc.cells a3 ++ (Enc.cells a4 ++ ([]))))) := by
      rw [cells_expr a4]
      rfl
    rw [e]
    exact CellsD.split (o := 0) (s := 1) c0 (CellsD.split (s := 1) c1 (CellsD.split (s := 1) c2 (CellsD.split (s := 1) c3 (CellsD.split (s := 9) c4 (CellsD.last (by rw [hl, show szT Tryz.prog 92 = 13 by kernel_rfl]; decide))))))
  · have h5 := hb 5
    simp [List.range_succ, b0, b1, b2, b3, b4] at h5
    simp only [bulkU]
    omega
def W0C (x : Clause) : Prop := WfL W0P x.paths ∧ WfL WfE x.wh ∧ WfE x.e ∧ Ws x.name ∧ WfL W0I x.items ∧ WfL W0S x.order ∧ WfL W0T x.sets ∧ WfL Ws x.names
def bulkC (x : Clause) : Nat := 1 + 1 + 1 + bulkL bulkP x.paths + bulkL bulkE x.wh + bulkE x.e + bulkS x.name + bulkL bulkI x.items + bulkL bulkT x.order + 1 + 1 + bulkL bulkU x.sets + bulkL bulkS x.names + 1
theorem readsU_Clause : ∀ n, ReadsU Tryz.prog n 57 Clause W0C bulkC := by
  intro n H enc w held cs x hx
  obtain ⟨m, xs, rfl, hl, hb, hf⟩ := structU ⟨_, rfl⟩ hx
  obtain ⟨y0, b0, t0⟩ := hf 0 0 3 (by kernel_rfl)
  obtain ⟨y1, b1, t1⟩ := hf 1 1 4 (by kernel_rfl)
  obtain ⟨y2, b2, t2⟩ := hf 2 2 4 (by kernel_rfl)
  obtain ⟨y3, b3, t3⟩ := hf 3 3 52 (by kernel_rfl)
  obtain ⟨y4, b4, t4⟩ := hf 4 4 40 (by kernel_rfl)
  obtain ⟨y5, b5, t5⟩ := hf 5 5 42 (by kernel_rfl)
  obtain ⟨y6, b6, t6⟩ := hf 6 14 9 (by kernel_rfl)
  obtain ⟨y7, b7, t7⟩ := hf 7 15 53 (by kernel_rfl)
  obtain ⟨y8, b8, t8⟩ := hf 8 16 54 (by kernel_rfl)
  obtain ⟨y9, b9, t9⟩ := hf 9 17 3 (by kernel_rfl)
  obtain ⟨y10, b10, t10⟩ := hf 10 18 3 (by kernel_rfl)
  obtain ⟨y11, b11, t11⟩ := hf 11 19 55 (by kernel_rfl)
  obtain ⟨y12, b12, t12⟩ := hf 12 20 33 (by kernel_rfl)
  obtain ⟨a0, w0, c0, u0⟩ := (readsU_one (readsAt_int (by kernel_rfl))) enc w held _ _ t0
  have u0 : 1 ≤ Rows.uptoBulk y0.1 := u0
  obtain ⟨a1, w1, c1, u1⟩ := (readsU_one (readsAt_bool (by kernel_rfl))) enc w held _ _ t1
  have u1 : 1 ≤ Rows.uptoBulk y1.1 := u1
  obtain ⟨a2, w2, c2, u2⟩ := (readsU_one (readsAt_bool (by kernel_rfl))) enc w held _ _ t2
  have u2 : 1 ≤ Rows.uptoBulk y2.1 := u2
  obtain ⟨a3, w3, c3, u3⟩ := (readsU_list' (e := 70) (by kernel_rfl) (by kernel_rfl) (of_decide_eq_true (by kernel_rfl)) readsU_PathPat) enc w held _ _ t3
  obtain ⟨a4, w4, c4, u4⟩ := (readsU_list' (e := 42) (by kernel_rfl) (by kernel_rfl) (of_decide_eq_true (by kernel_rfl)) readsU_expr) enc w held _ _ t4
  obtain ⟨a5, w5, c5, u5⟩ := (readsU_expr _) enc w held _ _ t5
  obtain ⟨a6, w6, c6, u6⟩ := (readsU_s _) enc w held _ _ t6
  obtain ⟨a7, w7, c7, u7⟩ := (readsU_list' (e := 59) (by kernel_rfl) (by kernel_rfl) (of_decide_eq_true (by kernel_rfl)) readsU_Item) enc w held _ _ t7
  obtain ⟨a8, w8, c8, u8⟩ := (readsU_list' (e := 90) (by kernel_rfl) (by kernel_rfl) (of_decide_eq_true (by kernel_rfl)) readsU_SortK) enc w held _ _ t8
  obtain ⟨a9, w9, c9, u9⟩ := (readsU_one (readsAt_int (by kernel_rfl))) enc w held _ _ t9
  have u9 : 1 ≤ Rows.uptoBulk y9.1 := u9
  obtain ⟨a10, w10, c10, u10⟩ := (readsU_one (readsAt_int (by kernel_rfl))) enc w held _ _ t10
  have u10 : 1 ≤ Rows.uptoBulk y10.1 := u10
  obtain ⟨a11, w11, c11, u11⟩ := (readsU_list' (e := 92) (by kernel_rfl) (by kernel_rfl) (of_decide_eq_true (by kernel_rfl)) readsU_SetI) enc w held _ _ t11
  obtain ⟨a12, w12, c12, u12⟩ := (readsU_list' (e := 9) (by kernel_rfl) (by kernel_rfl) (of_decide_eq_true (by kernel_rfl)) readsU_s) enc w held _ _ t12
  refine ⟨⟨a0, a1, a2, a3, a4, a5, a6, a7, a8, a9, a10, a11, a12⟩, ⟨w3, w4, w5, w6, w7, w8, w11, w12⟩, ?_, ?_⟩
  · have e : Enc.cells (⟨a0, a1, a2, a3, a4, a5, a6, a7, a8, a9, a10, a11, a12⟩ : Clause) = Enc.cells a0 ++ (Enc.cells a1 ++ (Enc.cells a2 ++ (Enc.cells a3 ++ (Enc.cells a4 ++ (Enc.cells a5 ++ (Enc.cells a6 ++ (Enc.cells a7 ++ (Enc.cells a8 ++ (Enc.cells a9 ++ (Enc.cells a10 ++ (Enc.cells a11 ++ (Enc.cells a12 ++ ([]))))))))))))) := by
      rw [cells_expr a5]
      rfl
    rw [e]
    exact CellsD.split (o := 0) (s := 1) c0 (CellsD.split (s := 1) c1 (CellsD.split (s := 1) c2 (CellsD.split (s := 1) c3 (CellsD.split (s := 1) c4 (CellsD.split (s := 9) c5 (CellsD.split (s := 1) c6 (CellsD.split (s := 1) c7 (CellsD.split (s := 1) c8 (CellsD.split (s := 1) c9 (CellsD.split (s := 1) c10 (CellsD.split (s := 1) c11 (CellsD.split (s := 1) c12 (CellsD.last (by rw [hl, show szT Tryz.prog 57 = 21 by kernel_rfl]; decide))))))))))))))
  · have h5 := hb 13
    simp [List.range_succ, b0, b1, b2, b3, b4, b5, b6, b7, b8, b9, b10, b11, b12] at h5
    simp only [bulkC]
    omega
def W0Y (x : Query) : Prop := WfL W0C x.clauses
def bulkY (x : Query) : Nat := bulkL bulkC x.clauses + 1
theorem readsU_Query : ∀ n, ReadsU Tryz.prog n 24 Query W0Y bulkY := by
  intro n H enc w held cs x hx
  obtain ⟨m, xs, rfl, hl, hb, hf⟩ := structU ⟨_, rfl⟩ hx
  obtain ⟨y0, b0, t0⟩ := hf 0 0 22 (by kernel_rfl)
  obtain ⟨a0, w0, c0, u0⟩ := (readsU_list' (e := 57) (by kernel_rfl) (by kernel_rfl) (of_decide_eq_true (by kernel_rfl)) readsU_Clause) enc w held _ _ t0
  refine ⟨⟨a0⟩, w0, ?_, ?_⟩
  · have e : Enc.cells (⟨a0⟩ : Query) = Enc.cells a0 ++ ([]) := by
      rfl
    rw [e]
    exact CellsD.split (o := 0) (s := 1) c0 (CellsD.last (by rw [hl, show szT Tryz.prog 24 = 1 by kernel_rfl]; decide))
  · have h5 := hb 1
    simp [List.range_succ, b0] at h5
    simp only [bulkY]
    omega

theorem sum_mem {α : Type} {b : α → Nat} {x : α} : ∀ {l : List α}, x ∈ l → b x ≤ (l.map b).sum
  | y :: r, h => by
    simp only [List.map_cons, List.sum_cons]
    rcases List.mem_cons.1 h with rfl | h
    · omega
    · have := sum_mem (b := b) h; omega
theorem sum_ge {α : Type} {b f : α → Nat} (h : ∀ x, f x ≤ b x) : ∀ l : List α, (l.map f).sum ≤ (l.map b).sum
  | [] => Nat.le_refl _
  | y :: r => by
    have := sum_ge h r
    have := h y
    simp only [List.map_cons, List.sum_cons]
    omega
theorem len_sum {α : Type} {b : α → Nat} (h : ∀ x, 1 ≤ b x) : ∀ l : List α, l.length ≤ (l.map b).sum
  | [] => Nat.le_refl _
  | y :: r => by
    have := len_sum h r
    have := h y
    simp only [List.map_cons, List.sum_cons, List.length_cons]
    omega
theorem wfN_of {x : NodePat} (h : W0N x) (hb : bulkN x ≤ 1048576) : WfN x := by
  obtain ⟨h1, ⟨h2, h3⟩, h4, h5⟩ := h
  refine ⟨h1, ⟨h2, h3⟩, ?_, h5⟩
  have := len_sum (b := bulkQ) (fun x => by unfold bulkQ; omega) x.props
  unfold bulkN bulkL at hb
  omega
theorem wfG_of {x : EdgePat} (h : W0G x) (hb : bulkG x ≤ 1048576) : WfG x := by
  obtain ⟨h1, ⟨h2, h3⟩, h4, h5⟩ := h
  refine ⟨h1, ⟨h2, h3⟩, ?_, h5⟩
  have := len_sum (b := bulkQ) (fun x => by unfold bulkQ; omega) x.props
  unfold bulkG bulkL at hb
  show x.props.length ≤ 1048576
  omega
theorem wfPS_of {p : PathPat} (h : W0P p) (hb : bulkP p ≤ 1048576) : WfPS p := by
  obtain ⟨h1, ⟨h2, h3⟩, h4, h5⟩ := h
  have n1 := len_sum (b := bulkN) (fun x => by unfold bulkN; omega) p.nodes
  have n2 : nsum p.nodes ≤ (p.nodes.map bulkN).sum := sum_ge (fun x => by
    have := len_sum (b := bulkQ) (fun x => by unfold bulkQ; omega) x.props
    unfold bulkN bulkL
    omega) _
  have n3 : esum p.edges ≤ (p.edges.map bulkG).sum := sum_ge (fun x => by
    have := len_sum (b := bulkQ) (fun x => by unfold bulkQ; omega) x.props
    unfold bulkG bulkL
    omega) _
  unfold bulkP bulkL at hb
  refine ⟨⟨h1, ⟨by omega, fun n hn => wfN_of (h3 n hn) ?_⟩, h4, fun e he => wfG_of (h5 e he) ?_⟩, by omega⟩
  · have := sum_mem (b := bulkN) hn; omega
  · have := sum_mem (b := bulkG) he; omega
theorem wfCS_of {c : Clause} (h : W0C c) (hb : bulkC c ≤ 1048576) : WfCS c := by
  obtain ⟨⟨h1, h2⟩, ⟨h3, h4⟩, h5, h6, ⟨h7, h8⟩, ⟨h9, h10⟩, ⟨h11, h12⟩, h13, h14⟩ := h
  have hp : ∀ p ∈ c.paths, WfPS p := fun p hp => wfPS_of (h2 p hp) (by
    have := sum_mem (b := bulkP) hp
    unfold bulkC bulkL at hb
    omega)
  exact ⟨⟨⟨h1, fun p h => (hp p h).1⟩, ⟨h3, h4⟩, h5, ⟨h7, fun i hi => (h8 i hi).1⟩, ⟨h9, fun i hi => h10 i hi⟩, ⟨h11, fun i hi => (h12 i hi).2.2.2⟩, h13⟩, hp⟩
theorem wfQS_of {q : Query} (h : W0Y q) (hb : bulkY q ≤ 1048576) : WfQS q ∧ q.clauses.length ≤ 1048576 := by
  obtain ⟨h1, h2⟩ := h
  have n1 := len_sum (b := bulkC) (fun x => by unfold bulkC; omega) q.clauses
  unfold bulkY bulkL at hb
  refine ⟨⟨h1, fun c hc => wfCS_of (h2 c hc) ?_⟩, by omega⟩
  have := sum_mem (b := bulkC) hc
  omega
end Go.Proofs.YtgjljfbohpnfcaaGreat


/-
  layer 21: what a reading of bounded bulk gives.
-/
namespace Go.Proofs.YtgjljfbohpnfcaaGreat
open Go.RowKit
set_option linter.unusedSimpArgs false
set_option linter.unusedVariables false

mutual
theorem names_bulk : ∀ e : Expr, (namesE e).length ≤ bulkE e
  | .mk o v n d k => by
    have h := names_bulks k
    rw [namesE, List.length_append]
    simp only [bulkE]
    split <;> simp <;> omega
theorem names_bulks : ∀ l : List Expr, (namesL l).length ≤ bulkEs l
  | [] => by rw [namesL]; exact Nat.zero_le _
  | e :: r => by
    have h1 := names_bulk e
    have h2 := names_bulks r
    rw [namesL, List.length_append, bulkEs]
    omega
end
theorem goodE_of {e : Expr} {B : Nat} (hw : WfE e) (h : bulkE e ≤ B) (hB : B ≤ 1000000000) : GoodE e := ⟨hw, by have := names_bulk e; exact ⟨by omega, by omega⟩⟩
theorem goodPr_of {l : List PropPat} {B : Nat} (hw : WfL WfQ l) (h : bulkL bulkQ l ≤ B) (hB : B ≤ 1000000000) : GoodPr l :=
  ⟨hw.1, fun p hp => by
    have h1 := sum_mem (b := bulkQ) hp
    unfold bulkL at h
    unfold bulkQ at h1
    exact goodE_of (hw.2 p hp).2 (Nat.le_refl _) (by unfold bulkQ at h; omega)⟩
theorem goodP_of {p : PathPat} {B : Nat} (hw : W0P p) (h : bulkP p ≤ B) (hB : B ≤ 1000000000) : GoodP p := by
  obtain ⟨_, ⟨h1, h2⟩, h3, h4⟩ := hw
  unfold bulkP bulkL at h
  refine ⟨⟨h1, fun n hn => ?_⟩, h3, fun x hx => ?_⟩
  · have q := sum_mem (b := bulkN) hn
    exact goodPr_of (h2 n hn).2.2 (B := bulkN n) (by unfold bulkN; omega) (by omega)
  · have q := sum_mem (b := bulkG) hx
    exact goodPr_of (h4 x hx).2.2 (B := bulkG x) (by unfold bulkG; omega) (by omega)
theorem goodC_of {c : Clause} {B : Nat} (hw : W0C c) (h : bulkC c ≤ B) (hB : B ≤ 1000000000) : GoodC c := by
  obtain ⟨⟨h1, h2⟩, ⟨h3, h4⟩, h5, h6, ⟨h7, h8⟩, ⟨h9, h10⟩, ⟨h11, h12⟩, h13, h14⟩ := hw
  unfold bulkC bulkL at h
  refine ⟨⟨h1, fun p hp => ?_⟩, ⟨h3, fun e he => ?_⟩, goodE_of h5 (Nat.le_refl _) (by omega), ⟨h7, fun i hi => ?_⟩, ⟨h9, fun i hi => ?_⟩, ⟨h11, fun i hi => ?_⟩, h13⟩
  · have q := sum_mem (b := bulkP) hp
    exact goodP_of (h2 p hp) (Nat.le_refl _) (by omega)
  · have q := sum_mem (b := bulkE) he
    exact goodE_of (h4 e he) (Nat.le_refl _) (by omega)
  · have q := sum_mem (b := bulkI) hi
    exact goodE_of (h8 i hi).1 (B := bulkI i) (by unfold bulkI; omega) (by omega)
  · have q := sum_mem (b := bulkT) hi
    exact goodE_of (h10 i hi) (B := bulkT i) (by unfold bulkT; omega) (by omega)
  · have q := sum_mem (b := bulkU) hi
    exact goodE_of (h12 i hi).2.2.2 (B := bulkU i) (by unfold bulkU; omega) (by omega)
theorem goodQ_of {q : Query} (hw : W0Y q) (h : bulkY q ≤ 1048576) : WfQS q ∧ GoodQ q := by
  obtain ⟨hs, hl⟩ := wfQS_of hw h
  refine ⟨hs, ⟨hs.1, fun c hc => (hs.2 c hc).1⟩, fun c hc => ?_⟩
  have q := sum_mem (b := bulkC) hc
  unfold bulkY bulkL at h
  exact goodC_of (hw.2 c hc) (Nat.le_refl _) (by omega)
theorem goodU_of {e : Expr} (hw : WfE e) (h : bulkE e ≤ 1048576) : WfE e ∧ (namesE e).length ≤ 1000000000 := ⟨hw, by have := names_bulk e; omega⟩
end Go.Proofs.YtgjljfbohpnfcaaGreat


/-
  The world's shape gives MaxLen's cell.
-/
namespace Go.Proofs.YtgjljfbohpnfcaaGreat
open Go.RowKit

theorem hasMax_of {w : World} (h : w.ShapedOpen Tryz.prog) : HasMax w :=
  Go.Proofs.cell_of_shapedOpen_int (g := 0) (zero := #[.int .i64 0]) (t := 3) h (of_decide_eq_true (by kernel_rfl)) (by kernel_rfl) rfl (by kernel_rfl) (by kernel_rfl) Tryz.underlying3

end Go.Proofs.YtgjljfbohpnfcaaGreat


/-
  layer 18: what a path pattern and a clause are held against, the reference's side: leaf functions.
-/
namespace Go.Proofs.YtgjljfbohpnfcaaGreat
open Go.RowKit
set_option linter.unusedSimpArgs false
set_option linter.unusedVariables false
set_option maxRecDepth 100000

section
variable {m : Int}
def sWd : List AV → Option (Prop × AV) := spec1 (fun (_ : ByteArray) => True) (fun s => .bool (wordB s))
noncomputable def CWr (m : Int) : Ctx := mkC Tryz.prog (G m) [(96, .pure sWd)]
@[simp] theorem CWr_P (m : Int) : (CWr m).P = Tryz.prog := rfl
@[simp] theorem CWr_1 (m : Int) : (CWr m).S 96 = .pure sWd := rfl
def sFree : List AV → Option (Prop × AV) := spec1 (fun (_ : ByteArray) => True) (fun s => .bool (freeB s))
def sHp : List AV → Option (Prop × AV) := spec1 (fun (p : PathPat) => p.edges.length ≤ maxLen) (fun p => .bool (!longB p))
noncomputable def CSr (m : Int) : Ctx := mkC Tryz.prog (G m) [(93, .pure sZE), (96, .pure sWd), (95, .pure sChk)]
@[simp] theorem CSr_P (m : Int) : (CSr m).P = Tryz.prog := rfl
@[simp] theorem CSr_1 (m : Int) : (CSr m).S 93 = .pure sZE := rfl
@[simp] theorem CSr_2 (m : Int) : (CSr m).S 96 = .pure sWd := rfl
@[simp] theorem CSr_3 (m : Int) : (CSr m).S 95 = .pure sChk := rfl
end
end Go.Proofs.YtgjljfbohpnfcaaGreat


/-
  layer 18: the check of a path pattern, the reference's side.
-/
namespace Go.Proofs.YtgjljfbohpnfcaaGreat
open Go.RowKit
set_option linter.unusedSimpArgs false
set_option linter.unusedVariables false
set_option maxRecDepth 100000

def oN (x : NodePat) : Bool := freeB x.var && (x.labels.all wordB && (keysL x.props).all wordB)
def uN (x : NodePat) : Bool := risesB x.labels && risesB (keysL x.props)
def oG (x : EdgePat) : Bool := freeB x.var && (x.types.all wordB && (keysL x.props).all wordB)
def uG (x : EdgePat) : Bool := risesB x.types && risesB (keysL x.props)
def shapeE (p : PathPat) : Int :=
  if longB p = true then 4 else if ¬ p.nodes.length = p.edges.length + 1 then 1 else if p.edges.all hopB = false then 1
  else if (freeB p.var && (p.edges.all oG && p.nodes.all oN)) = false then 6 else if (p.edges.all uG && p.nodes.all uN) = false then 26 else 0
theorem five (a f w k : Bool) : (a = false) ∨ (a = true ∧ f = false) ∨ (a = true ∧ f = true ∧ w = false) ∨ (a = true ∧ f = true ∧ w = true ∧ k = false) ∨ (a = true ∧ f = true ∧ w = true ∧ k = true) := by cases a <;> cases f <;> cases w <;> cases k <;> simp
theorem four (a w k : Bool) : (a = false) ∨ (a = true ∧ w = false) ∨ (a = true ∧ w = true ∧ k = false) ∨ (a = true ∧ w = true ∧ k = true) := by cases a <;> cases w <;> cases k <;> simp
structure B2 where
  a : Bool
  b : Bool

section
variable {m : Int}
noncomputable def CSh (m : Int) : Ctx := mkC Tryz.prog (G m) [(141, .pure sHp), (142, .pure sFree), (143, .pure sHop), (98, .pure sWs), (144, .pure sKs), (145, .pure sRs)]
@[simp] theorem CSh_P (m : Int) : (CSh m).P = Tryz.prog := rfl
@[simp] theorem CSh_1 (m : Int) : (CSh m).S 141 = .pure sHp := rfl
@[simp] theorem CSh_2 (m : Int) : (CSh m).S 142 = .pure sFree := rfl
@[simp] theorem CSh_3 (m : Int) : (CSh m).S 143 = .pure sHop := rfl
@[simp] theorem CSh_4 (m : Int) : (CSh m).S 98 = .pure sWs := rfl
@[simp] theorem CSh_5 (m : Int) : (CSh m).S 144 = .pure sKs := rfl
@[simp] theorem CSh_6 (m : Int) : (CSh m).S 145 = .pure sRs := rfl
def sShape : List AV → Option (Prop × AV) := spec1 (fun (p : PathPat) => WfP p) (fun p => .int .i64 (shapeE p))
end
end Go.Proofs.YtgjljfbohpnfcaaGreat


/-
  layer 18: SyntaxPaths.
-/
namespace Go.Proofs.YtgjljfbohpnfcaaGreat
open Go.RowKit
set_option linter.unusedSimpArgs false
set_option linter.unusedVariables false
set_option maxRecDepth 100000

section
variable {m : Int}
noncomputable def CRp (m : Int) : Ctx := mkC Tryz.prog (G m) [(123, .pure sShape), (34, .pure sProps), (95, .pure sChk), (68, .pure sHasA)]
@[simp] theorem CRp_P (m : Int) : (CRp m).P = Tryz.prog := rfl
@[simp] theorem CRp_1 (m : Int) : (CRp m).S 123 = .pure sShape := rfl
@[simp] theorem CRp_2 (m : Int) : (CRp m).S 34 = .pure sProps := rfl
@[simp] theorem CRp_3 (m : Int) : (CRp m).S 95 = .pure sChk := rfl
@[simp] theorem CRp_4 (m : Int) : (CRp m).S 68 = .pure sHasA := rfl
def sPathS : List AV → Option (Prop × AV) := spec2 (fun (p : PathPat) (_ : Bool) => WfPS p) (fun p c => .int .i64 (pathE p c))
end
end Go.Proofs.YtgjljfbohpnfcaaGreat


/-
  layer 18: unused fields and counts, the reference's side.
-/
namespace Go.Proofs.YtgjljfbohpnfcaaGreat
open Go.RowKit
set_option linter.unusedSimpArgs false
set_option linter.unusedVariables false
set_option maxRecDepth 100000

def uP (c : Clause) : Bool := decide (0 < c.paths.length) && !isK [1, 5, 6] c.kind
def uW (c : Clause) : Bool := decide (0 < c.wh.length) && !isK [1, 3] c.kind
def uE (c : Clause) : Bool := !isK [2] c.kind && (!zeroE c.e || !decide (c.name = ⟨#[]⟩))
def uI (c : Clause) : Bool := !colsB c && (decide (0 < c.items.length) || decide (0 < c.order.length) || decide (0 < c.skip) || decide (0 < c.limit))
def unusedB (c : Clause) : Bool := !strayA c && !uP c && !uW c && !uE c && !uI c && !strayI c
theorem add_zero (e : Int) : addE 0 e = e := rfl
section
variable {m : Int}
noncomputable def CUn (m : Int) : Ctx := mkC Tryz.prog (G m) [(93, .pure sZE)]
@[simp] theorem CUn_P (m : Int) : (CUn m).P = Tryz.prog := rfl
@[simp] theorem CUn_1 (m : Int) : (CUn m).S 93 = .pure sZE := rfl
def sUnused : List AV → Option (Prop × AV) := spec1 (fun (_ : Clause) => True) (fun c => .bool (unusedB c))
def sCounts : List AV → Option (Prop × AV) := spec1 (fun (_ : Clause) => True) (fun c => .bool (!crowdB c))
end
end Go.Proofs.YtgjljfbohpnfcaaGreat


/-
  layer 21: the reference's state: fail, introduce, element, check.
-/
namespace Go.Proofs.YtgjljfbohpnfcaaGreat
open Go.RowKit
set_option linter.unusedSimpArgs false
set_option linter.unusedVariables false
set_option maxRecDepth 100000

def VS (v : List Cnt) : Blk := ⟨48, 2, encRows v, true, true⟩
def SS (o : List Cnt) (l n : Nat) (k e : Int) : Blk := ⟨79, 4, [[.slice 2 false (encRows o), .own l n, .int .i64 k, .int .i64 e]], true, false⟩
def KSt : BK2 Rs where
  raw s := [.slice 2 false (encRows s.old), .own 1 s.vars.length, .int .i64 s.kind, .int .i64 s.e]
  V s := VS s.vars
  n s := s.vars.length
  un a b := match a.rows with
    | [[o, _, .int _ k, .int _ e]] => ⟨Enc.dec o, Enc.dec (.slice 2 false b.rows), k, e⟩
    | _ => ⟨[], [], 0, 0⟩
  pos a := match a.rows with
    | [[_, .own l _, _, _]] => l
    | _ => 0
  sz := 4
  e := 79
  vsz := 2
  ve := 48
  hraw s c h := by
    simp only [List.mem_cons, List.not_mem_nil, or_false] at h
    rcases h with rfl | rfl | rfl | rfl
    · exact .inl rfl
    · exact .inr rfl
    · exact .inl rfl
    · exact .inl rfl
  hdeep _ := rfl
  hmu _ := rfl
  hsz _ := rfl
  he _ := rfl
  un_B s l := by
    have h1 : (Enc.dec (.slice 2 false (encRows s.old)) : List Cnt) = s.old := Enc.dec_enc s.old
    have h2 : (Enc.dec (.slice 2 false (encRows s.vars)) : List Cnt) = s.vars := Enc.dec_enc s.vars
    simp only [List.map_cons, List.map_nil, reown, VS, h1, h2]
  pos_B s l := rfl
@[simp] theorem Rs.eta (s : Rs) : Rs.mk s.old s.vars s.kind s.e = s := rfl

def OKR (s : Rs) : Prop := s.old.length ≤ 24 ∧ s.vars.length ≤ 24
theorem OKR.fail {s : Rs} (h : OKR s) (e : Int) : OKR (s.fail e) := by unfold OKR; rw [Rs.fail_old, Rs.fail_vars]; exact h
theorem OKR.intro {s : Rs} (h : OKR s) (n : ByteArray) (k : Int) : OKR (s.intro n k) := by
  unfold Rs.intro
  dsimp only
  by_cases h0 : 24 ≤ s.vars.length
  · rw [if_pos h0]
    by_cases h1 : s.e = 0
    · have : (s.fail 4).e ≠ 0 := by rw [Rs.fail_zero h1]; show (4 : Int) ≠ 0; decide
      rw [if_neg this]
      exact h.fail 4
    · rw [Rs.fail_ne h1, if_neg h1]
      exact h
  · rw [if_neg h0]
    split
    · refine ⟨h.1, ?_⟩
      show (s.vars ++ [_]).length ≤ 24
      simp
      omega
    · exact h
def fFailR : List AV → Option ((Rs → Prop) × (Rs → Rs))
  | [.int .i64 e] => some (fun _ => True, fun s => s.fail e)
  | _ => none
def fIntroR : List AV → Option ((Rs → Prop) × (Rs → Rs))
  | [.str n, .int .i64 k] => some (fun s => OKR s, fun s => s.intro n k)
  | _ => none
def fElementR : List AV → Option ((Rs → Prop) × (Rs → Rs))
  | [.str n, .bool k] => some (fun s => OKR s, fun s => s.element n k)
  | _ => none
def fCheckR : List AV → Option ((Rs → Prop) × (Rs → Rs))
  | [a, .own 1 n, .bool w] => some (fun s => s.vars.length ≤ 24 ∧ a = Enc.enc (Enc.dec a : Expr) ∧ GoodE (Enc.dec a), fun s => s.fail (checkX s.vars (Enc.dec a) w))
  | [a, .slice z f r, .bool w] => some (fun s => AV.slice z f r = Enc.enc (Enc.dec (.slice z f r) : List Cnt) ∧ (Enc.dec (.slice z f r) : List Cnt).length ≤ 24 ∧ a = Enc.enc (Enc.dec a : Expr) ∧ GoodE (Enc.dec a), fun s => s.fail (checkX (Enc.dec (.slice z f r)) (Enc.dec a) w))
  | _ => none
def gFailR := gM2 KSt fFailR
def gIntroR := gM2 KSt fIntroR
def gElementR := gM2 KSt fElementR
def gCheckR := gM2 KSt fCheckR
section
variable {m : Int}
noncomputable def CInR (m : Int) : Ctx := mkC Tryz.prog (G m) [(45, .gen gFailR)]
@[simp] theorem CInR_P (m : Int) : (CInR m).P = Tryz.prog := rfl
@[simp] theorem CInR_G (m : Int) : (CInR m).G = (G m) := rfl
@[simp] theorem CInR_1 (m : Int) : (CInR m).S 45 = .gen gFailR := rfl
noncomputable def CElR (m : Int) : Ctx := mkC Tryz.prog (G m) [(45, .gen gFailR), (21, .pure sKind)]
@[simp] theorem CElR_P (m : Int) : (CElR m).P = Tryz.prog := rfl
@[simp] theorem CElR_G (m : Int) : (CElR m).G = (G m) := rfl
@[simp] theorem CElR_1 (m : Int) : (CElR m).S 45 = .gen gFailR := rfl
@[simp] theorem CElR_2 (m : Int) : (CElR m).S 21 = .pure sKind := rfl
end
end Go.Proofs.YtgjljfbohpnfcaaGreat


/-
  layer 21: the reference's state: check.
-/
namespace Go.Proofs.YtgjljfbohpnfcaaGreat
open Go.RowKit
set_option linter.unusedSimpArgs false
set_option linter.unusedVariables false
set_option maxRecDepth 100000

section
variable {m : Int}
def sHasR : List AV → Option (Prop × AV) := spec1 (fun (e : Expr) => WfE e) (fun e => .bool (aggE e))
noncomputable def CChR (m : Int) : Ctx := mkC Tryz.prog (G m) [(45, .gen gFailR), (21, .pure sKind), (19, .pure sUsesR), (68, .pure sHasR)]
@[simp] theorem CChR_P (m : Int) : (CChR m).P = Tryz.prog := rfl
@[simp] theorem CChR_G (m : Int) : (CChR m).G = (G m) := rfl
@[simp] theorem CChR_1 (m : Int) : (CChR m).S 45 = .gen gFailR := rfl
@[simp] theorem CChR_2 (m : Int) : (CChR m).S 21 = .pure sKind := rfl
@[simp] theorem CChR_3 (m : Int) : (CChR m).S 19 = .pure sUsesR := rfl
@[simp] theorem CChR_4 (m : Int) : (CChR m).S 68 = .pure sHasR := rfl
end
end Go.Proofs.YtgjljfbohpnfcaaGreat


/-
  layer 21: the reference's state: node, edge.
-/
namespace Go.Proofs.YtgjljfbohpnfcaaGreat
open Go.RowKit
set_option linter.unusedSimpArgs false
set_option linter.unusedVariables false
set_option maxRecDepth 100000

theorem Rs.props_old : ∀ {l : List PropPat} {b : Rs}, (b.props l).old = b.old
  | [], _ => rfl
  | a :: r, b => (Rs.props_old (l := r) (b := b.fail _)).trans (Rs.fail_old _ _)
theorem Rs.props_vars : ∀ {l : List PropPat} {b : Rs}, (b.props l).vars = b.vars
  | [], _ => rfl
  | a :: r, b => (Rs.props_vars (l := r) (b := b.fail _)).trans (Rs.fail_vars _ _)
theorem OKR.props {b : Rs} (h : OKR b) (l : List PropPat) : OKR (b.props l) := by unfold OKR; rw [Rs.props_old, Rs.props_vars]; exact h
theorem OKR.nodeK {s : Rs} (h : OKR s) (n : NodePat) : OKR (s.nodeK n) := by
  unfold Rs.nodeK
  dsimp only
  repeat' split
  all_goals first | exact h | exact h.intro _ _ | exact (h.fail _).fail _ | exact h.fail _
theorem OKR.edgeK {s : Rs} (h : OKR s) (n : EdgePat) : OKR (s.edgeK n) := by
  unfold Rs.edgeK
  dsimp only
  repeat' split
  all_goals first | exact h | exact h.intro _ _ | exact (h.fail _).fail _ | exact h.fail _
theorem OKR.node {s : Rs} (h : OKR s) (n : NodePat) : OKR (s.node n) := (h.nodeK n).props _
theorem OKR.edge {s : Rs} (h : OKR s) (n : EdgePat) : OKR (s.edge n) := (h.edgeK n).props _
def fNodeR : List AV → Option ((Rs → Prop) × (Rs → Rs))
  | [a] => some (fun s => OKR s ∧ a = Enc.enc (Enc.dec a : NodePat) ∧ GoodPr (Enc.dec a : NodePat).props ∧ (Enc.dec a : NodePat).labels.length + (Enc.dec a : NodePat).props.length ≤ maxLen, fun s => s.node (Enc.dec a))
  | _ => none
def fEdgeR : List AV → Option ((Rs → Prop) × (Rs → Rs))
  | [a] => some (fun s => OKR s ∧ a = Enc.enc (Enc.dec a : EdgePat) ∧ GoodPr (Enc.dec a : EdgePat).props, fun s => s.edge (Enc.dec a))
  | _ => none
def gNodeR := gM2 KSt fNodeR
def gEdgeR := gM2 KSt fEdgeR
section
variable {m : Int}
noncomputable def CNoR (m : Int) : Ctx := mkC Tryz.prog (G m) [(45, .gen gFailR), (46, .gen gIntroR), (44, .gen gCheckR), (21, .pure sKind)]
@[simp] theorem CNoR_P (m : Int) : (CNoR m).P = Tryz.prog := rfl
@[simp] theorem CNoR_G (m : Int) : (CNoR m).G = (G m) := rfl
@[simp] theorem CNoR_1 (m : Int) : (CNoR m).S 45 = .gen gFailR := rfl
@[simp] theorem CNoR_2 (m : Int) : (CNoR m).S 46 = .gen gIntroR := rfl
@[simp] theorem CNoR_3 (m : Int) : (CNoR m).S 44 = .gen gCheckR := rfl
@[simp] theorem CNoR_4 (m : Int) : (CNoR m).S 21 = .pure sKind := rfl
end
end Go.Proofs.YtgjljfbohpnfcaaGreat


/-
  layer 21: the reference's state: edge.
-/
namespace Go.Proofs.YtgjljfbohpnfcaaGreat
open Go.RowKit
set_option linter.unusedSimpArgs false
set_option linter.unusedVariables false
set_option maxRecDepth 100000

section
variable {m : Int}
end
end Go.Proofs.YtgjljfbohpnfcaaGreat


/-
  layer 21: the reference's state: path.
-/
namespace Go.Proofs.YtgjljfbohpnfcaaGreat
open Go.RowKit
set_option linter.unusedSimpArgs false
set_option linter.unusedVariables false
set_option maxRecDepth 100000

def LabP (p : PathPat) : Prop := ∀ n ∈ p.nodes, n.labels.length + n.props.length ≤ maxLen
theorem OKR.walk {s : Rs} (h : OKR s) (p : PathPat) : ∀ k, OKR (s.walk p k)
  | 0 => h
  | k + 1 => by
    rw [Rs.walk]
    split
    · exact ((h.walk p k).node _).edge _
    · exact (h.walk p k).node _
theorem OKR.pathV {s : Rs} (h : OKR s) (v : ByteArray) : OKR (s.pathV v) := by
  unfold Rs.pathV
  dsimp only
  repeat' split
  all_goals first | exact h | exact ((h.fail _).fail _).intro _ _ | exact (h.fail _).intro _ _ | exact h.intro _ _
theorem OKR.path {s : Rs} (h : OKR s) (p : PathPat) : OKR (s.path p) := (h.walk p _).pathV _
def fPathR : List AV → Option ((Rs → Prop) × (Rs → Rs))
  | [a] => some (fun s => OKR s ∧ a = Enc.enc (Enc.dec a : PathPat) ∧ GoodP (Enc.dec a : PathPat) ∧ LabP (Enc.dec a : PathPat), fun s => s.path (Enc.dec a))
  | _ => none
def gPathR := gM2 KSt fPathR

section
variable {m : Int}
noncomputable def CPaR (m : Int) : Ctx := mkC Tryz.prog (G m) [(45, .gen gFailR), (46, .gen gIntroR), (66, .gen gNodeR), (67, .gen gEdgeR), (21, .pure sKind)]
@[simp] theorem CPaR_P (m : Int) : (CPaR m).P = Tryz.prog := rfl
@[simp] theorem CPaR_G (m : Int) : (CPaR m).G = (G m) := rfl
@[simp] theorem CPaR_1 (m : Int) : (CPaR m).S 45 = .gen gFailR := rfl
@[simp] theorem CPaR_2 (m : Int) : (CPaR m).S 46 = .gen gIntroR := rfl
@[simp] theorem CPaR_3 (m : Int) : (CPaR m).S 66 = .gen gNodeR := rfl
@[simp] theorem CPaR_4 (m : Int) : (CPaR m).S 67 = .gen gEdgeR := rfl
@[simp] theorem CPaR_5 (m : Int) : (CPaR m).S 21 = .pure sKind := rfl
end
end Go.Proofs.YtgjljfbohpnfcaaGreat


/-
  layer 21: the reference's state: columns.
-/
namespace Go.Proofs.YtgjljfbohpnfcaaGreat
open Go.RowKit
set_option linter.unusedSimpArgs false
set_option linter.unusedVariables false
set_option maxRecDepth 100000

theorem Rs.item_old (s : Rs) (x : Item) : (s.item x).old = s.old := by
  unfold Rs.item
  dsimp only
  split
  · rw [Rs.fail_old, Rs.fail_old]
  · rw [Rs.fail_old]
theorem Rs.item_kind (s : Rs) (x : Item) : (s.item x).kind = s.kind := by
  unfold Rs.item
  dsimp only
  split
  · rw [Rs.fail_kind, Rs.fail_kind]
  · rw [Rs.fail_kind]
theorem Rs.item_len (s : Rs) (x : Item) : (s.item x).vars.length = s.vars.length + 1 := by
  unfold Rs.item
  dsimp only
  split
  · simp [Rs.fail_vars]
  · simp [Rs.fail_vars]
theorem Rs.itemL_keeps : ∀ {l : List Item} {s : Rs}, (s.itemL l).old = s.old ∧ (s.itemL l).kind = s.kind ∧ (s.itemL l).vars.length = s.vars.length + l.length
  | [], _ => ⟨rfl, rfl, rfl⟩
  | a :: r, s => by
    obtain ⟨h1, h2, h3⟩ := Rs.itemL_keeps (l := r) (s := s.item a)
    refine ⟨h1.trans (s.item_old a), h2.trans (s.item_kind a), ?_⟩
    have := s.item_len a
    show ((s.item a).itemL r).vars.length = _
    rw [h3, this, List.length_cons]
    omega

/-! The state at place 1, its scope at place 2. -/
def colsS (s : Rs) (l : List Item) : Rs := Rs.itemL { s with vars := [] } l
def gColsR : List AV → List Blk → Option (Prop × AV × List Blk) := fun args H => match args, H with
  | [.ptr 1 1 4 0 0, v], [q, a, b, c] => some ((q.deep = true ∧ c.deep = true ∧ a = KSt.A (KSt.un a b) 2 ∧ b = KSt.V (KSt.un a b)) ∧ OKR (KSt.un a b) ∧ v = Enc.enc (Enc.dec v : List Item) ∧ (Enc.dec v : List Item).length ≤ 16 ∧ ∀ i ∈ (Enc.dec v : List Item), GoodE i.e,
      .tup [], [q, KSt.A (colsS (KSt.un a b) (Enc.dec v)) 4, b, c, KSt.V (colsS (KSt.un a b) (Enc.dec v))])
  | _, _ => none
section
variable {m : Int}
noncomputable def CCoR (m : Int) : Ctx := mkC Tryz.prog (G m) [(45, .gen gFailR), (44, .gen gCheckR), (21, .pure sKind)]
@[simp] theorem CCoR_P (m : Int) : (CCoR m).P = Tryz.prog := rfl
@[simp] theorem CCoR_G (m : Int) : (CCoR m).G = (G m) := rfl
@[simp] theorem CCoR_1 (m : Int) : (CCoR m).S 45 = .gen gFailR := rfl
@[simp] theorem CCoR_2 (m : Int) : (CCoR m).S 44 = .gen gCheckR := rfl
@[simp] theorem CCoR_3 (m : Int) : (CCoR m).S 21 = .pure sKind := rfl
end
end Go.Proofs.YtgjljfbohpnfcaaGreat


/-
  layer 21: the reference's state: clause.
-/
namespace Go.Proofs.YtgjljfbohpnfcaaGreat
open Go.RowKit
set_option linter.unusedSimpArgs false
set_option linter.unusedVariables false
set_option maxRecDepth 100000

def LabC (c : Clause) : Prop := ∀ p ∈ c.paths, LabP p
theorem OKR.element {s : Rs} (h : OKR s) (n : ByteArray) (k : Bool) : OKR (s.element n k) := by
  unfold Rs.element
  dsimp only
  repeat' split
  all_goals first | exact h | exact (h.fail _).fail _ | exact h.fail _
theorem OKR.set1 {s : Rs} (h : OKR s) (x : SetI) : OKR (s.set1 x) := by
  unfold Rs.set1
  dsimp only
  split
  · exact (h.element _ _).fail _
  · exact h.element _ _
theorem OKR.pathL : ∀ {l : List PathPat} {s : Rs}, OKR s → OKR (s.pathL l)
  | [], _, h => h
  | a :: r, s, h => OKR.pathL (l := r) (s := s.path a) (h.path a)
theorem OKR.chks : ∀ {l : List Expr} {s : Rs}, OKR s → OKR (s.chks l)
  | [], _, h => h
  | a :: r, s, h => OKR.chks (l := r) (s := s.fail _) (h.fail _)
theorem OKR.sorts : ∀ {l : List SortK} {s : Rs}, OKR s → OKR (s.sorts l)
  | [], _, h => h
  | a :: r, s, h => OKR.sorts (l := r) (s := s.fail _) (h.fail _)
theorem OKR.setL : ∀ {l : List SetI} {s : Rs}, OKR s → OKR (s.setL l)
  | [], _, h => h
  | a :: r, s, h => OKR.setL (l := r) (s := s.set1 a) (h.set1 a)
theorem OKR.nameL : ∀ {l : List ByteArray} {s : Rs}, OKR s → OKR (s.nameL l)
  | [], _, h => h
  | a :: r, s, h => OKR.nameL (l := r) (s := s.element a false) (h.element a false)
theorem OKR.unwind {s : Rs} (h : OKR s) (c : Clause) : OKR (s.unwind c) := by
  unfold Rs.unwind
  dsimp only
  split
  · exact ((h.fail _).fail _).intro _ _
  · exact (h.fail _).intro _ _
theorem OKR.cols {s : Rs} (h : OKR s) {l : List Item} (hl : l.length ≤ 16) : OKR (colsS s l) := by
  obtain ⟨h1, _, h3⟩ := Rs.itemL_keeps (l := l) (s := { s with vars := [] })
  refine ⟨?_, ?_⟩
  · have : (colsS s l).old = s.old := h1
    rw [this]
    exact h.1
  · have : (colsS s l).vars.length = l.length := h3.trans (by simp)
    omega

def clauseH (q : Blk) (s : Rs) (c : Clause) : List Blk :=
  if c.kind = 3 ∨ c.kind = 4 then [q, KSt.A (s.clause c) 4, VS (s.pathL c.paths).vars, CBk c, KSt.V (s.clause c)] else [q, KSt.A (s.clause c) 2, KSt.V (s.clause c)]
def gClauseR : List AV → List Blk → Option (Prop × AV × List Blk) := fun args H => match args, H with
  | [.ptr 1 1 4 0 0, v], [q, a, b] => some ((q.deep = true ∧ a = KSt.A (KSt.un a b) 2 ∧ b = KSt.V (KSt.un a b)) ∧ OKR (KSt.un a b) ∧ v = Enc.enc (Enc.dec v : Clause) ∧ GoodC (Enc.dec v) ∧ LabC (Enc.dec v) ∧ ((Enc.dec v : Clause).kind = 3 ∨ (Enc.dec v : Clause).kind = 4 → (Enc.dec v : Clause).items.length ≤ 16),
      .tup [], clauseH q (KSt.un a b) (Enc.dec v))
  | _, _ => none
section
variable {m : Int}
noncomputable def CClR (m : Int) : Ctx := mkC Tryz.prog (G m) [(45, .gen gFailR), (46, .gen gIntroR), (43, .gen gPathR), (44, .gen gCheckR), (48, .gen gElementR), (47, .gen gColsR), (21, .pure sKind)]
@[simp] theorem CClR_P (m : Int) : (CClR m).P = Tryz.prog := rfl
@[simp] theorem CClR_G (m : Int) : (CClR m).G = (G m) := rfl
@[simp] theorem CClR_1 (m : Int) : (CClR m).S 45 = .gen gFailR := rfl
@[simp] theorem CClR_2 (m : Int) : (CClR m).S 46 = .gen gIntroR := rfl
@[simp] theorem CClR_3 (m : Int) : (CClR m).S 43 = .gen gPathR := rfl
@[simp] theorem CClR_4 (m : Int) : (CClR m).S 44 = .gen gCheckR := rfl
@[simp] theorem CClR_5 (m : Int) : (CClR m).S 48 = .gen gElementR := rfl
@[simp] theorem CClR_6 (m : Int) : (CClR m).S 47 = .gen gColsR := rfl
@[simp] theorem CClR_7 (m : Int) : (CClR m).S 21 = .pure sKind := rfl
end
end Go.Proofs.YtgjljfbohpnfcaaGreat


/-
  layer 18: SyntaxClauses.
-/
namespace Go.Proofs.YtgjljfbohpnfcaaGreat
open Go.RowKit
set_option linter.unusedSimpArgs false
set_option linter.unusedVariables false
set_option maxRecDepth 100000

section
variable {m : Int}
noncomputable def CPr (m : Int) : Ctx := mkC Tryz.prog (G m) [(94, .pure sPathS), (95, .pure sChk), (96, .pure sWd), (97, .pure sSetE), (98, .pure sWs)]
@[simp] theorem CPr_P (m : Int) : (CPr m).P = Tryz.prog := rfl
@[simp] theorem CPr_1 (m : Int) : (CPr m).S 94 = .pure sPathS := rfl
@[simp] theorem CPr_2 (m : Int) : (CPr m).S 95 = .pure sChk := rfl
@[simp] theorem CPr_3 (m : Int) : (CPr m).S 96 = .pure sWd := rfl
@[simp] theorem CPr_4 (m : Int) : (CPr m).S 97 = .pure sSetE := rfl
@[simp] theorem CPr_5 (m : Int) : (CPr m).S 98 = .pure sWs := rfl
def sParts : List AV → Option (Prop × AV) := spec1 (fun (c : Clause) => WfCS c) (fun c => .int .i64 (partsC c))
noncomputable def CCc (m : Int) : Ctx := mkC Tryz.prog (G m) [(63, .pure sUnused), (64, .pure sCounts), (65, .pure sParts)]
@[simp] theorem CCc_P (m : Int) : (CCc m).P = Tryz.prog := rfl
@[simp] theorem CCc_1 (m : Int) : (CCc m).S 63 = .pure sUnused := rfl
@[simp] theorem CCc_2 (m : Int) : (CCc m).S 64 = .pure sCounts := rfl
@[simp] theorem CCc_3 (m : Int) : (CCc m).S 65 = .pure sParts := rfl
def sClauseS : List AV → Option (Prop × AV) := spec1 (fun (c : Clause) => WfCS c) (fun c => .int .i64 (clauseE c))
end
end Go.Proofs.YtgjljfbohpnfcaaGreat


/-
  layer 18: SyntaxQueries.
-/
namespace Go.Proofs.YtgjljfbohpnfcaaGreat
open Go.RowKit
set_option linter.unusedSimpArgs false
set_option linter.unusedVariables false
set_option maxRecDepth 100000

section
variable {m : Int}
noncomputable def CQr (m : Int) : Ctx := mkC Tryz.prog (G m) [(42, .pure sClauseS)]
@[simp] theorem CQr_P (m : Int) : (CQr m).P = Tryz.prog := rfl
@[simp] theorem CQr_1 (m : Int) : (CQr m).S 42 = .pure sClauseS := rfl
def sQueryS : List AV → Option (Prop × AV) := spec1 (fun (q : Query) => WfQS q) (fun q => pairA (queryE q))
end
end Go.Proofs.YtgjljfbohpnfcaaGreat


/-
  layer 21: the reference's Scope: the state of a round is made (its two blocks in either order).
-/
namespace Go.Proofs.YtgjljfbohpnfcaaGreat
open Go.RowKit
set_option linter.unusedSimpArgs false
set_option linter.unusedVariables false
set_option maxRecDepth 100000

structure Fl where
  b : Bool
def ZS : Blk := ⟨79, 4, [[.slice 2 true [], .slice 2 true [], .int .i64 0, .int .i64 0]], true, true⟩
def bsS (V : List Cnt) (i n : Int) : List (Nat × AV) := [(1, .int .i64 n), (2, .ptr 0 1 1 0 0), (9, .slice 2 false (encRows V)), (10, .int .i64 i)]
def tbS (q : Query) (V : List Cnt) (i : Nat) (o : Fl) : List (Nat × Nat × AV) :=
  [(0, 34, .slice 2 false (encRows V)), (1, 35, .slice 2 true []), (2, 36, .slice 2 false (encRows V)), (3, 37, .own (if o.b then 1 else 2) V.length), (4, 38, .ptr 0 1 1 0 0), (5, 39, .slice 21 false (encRows q.clauses)), (6, 40, .int .i64 i), (7, 41, .iptr (Enc.cells (ix q.clauses i))), (8, 42, .iptr (Enc.cells (ix q.clauses i))), (9, 43, .int .i64 (ix q.clauses i).kind), (10, 44, .agg [.slice 2 false (encRows V), .own (if o.b then 1 else 2) V.length, .int .i64 (ix q.clauses i).kind, .int .i64 0]), (11, 11, .ptr (if o.b then 2 else 1) 1 4 0 0)]
def hpS (q : Query) (V : List Cnt) (k : Int) (o : Fl) (l3 l11 l12 : Bool) : List Blk :=
  QB q :: (if l12 then (if o.b then [VS V, SS V 1 V.length k 0] else [SS V 2 V.length k 0, VS V]) else if l3 && l11 then (if o.b then [VS V, ZS] else [ZS, VS V]) else if l3 then [VS V] else if l11 then [ZS] else [])
structure IS (q : Query) (V : List Cnt) (i : Nat) (n : Int) (o : Fl) (L : Nat → Bool) (st : ASt) : Prop where
  b : ∀ p ∈ bsS V i n, getA st.ρ p.1 = p.2
  v : ∀ p ∈ tbS q V i o, L p.1 = true → getA st.ρ p.2.1 = p.2.2
  c3 : L 3 = true → L 11 = false → o.b = true
  c11 : L 11 = true → L 3 = false → o.b = false
  c10 : L 10 = true → L 3 = true
  c12 : L 12 = true → L 3 = true ∧ L 11 = true ∧ L 10 = true
  hp : st.H = hpS q V (ix q.clauses i).kind o (L 3) (L 11) (L 12)
section
variable {m : Int}
noncomputable def CSR (m : Int) : Ctx := mkC Tryz.prog (G m) [(28, .gen gClauseR), (27, .pure sQueryS)]
@[simp] theorem CSR_P (m : Int) : (CSR m).P = Tryz.prog := rfl
@[simp] theorem CSR_G (m : Int) : (CSR m).G = (G m) := rfl
@[simp] theorem CSR_1 (m : Int) : (CSR m).S 28 = .gen gClauseR := rfl
@[simp] theorem CSR_2 (m : Int) : (CSR m).S 27 = .pure sQueryS := rfl
end
end Go.Proofs.YtgjljfbohpnfcaaGreat


/-
  layer 21: the reference's Scope.
-/
namespace Go.Proofs.YtgjljfbohpnfcaaGreat
open Go.RowKit
set_option linter.unusedSimpArgs false
set_option linter.unusedVariables false
set_option maxRecDepth 100000

def LabQ (q : Query) : Prop := ∀ c ∈ q.clauses, LabC c
theorem OKR.clause {s : Rs} (h : OKR s) {c : Clause} (hit : c.kind = 3 ∨ c.kind = 4 → c.items.length ≤ 16) : OKR (s.clause c) := by
  have hA := h.pathL (l := c.paths)
  have hU : OKR (if c.kind = 2 then (s.pathL c.paths).unwind c else s.pathL c.paths) := by
    split
    · exact hA.unwind c
    · exact hA
  unfold Rs.clause
  dsimp only
  generalize (if c.kind = 2 then (s.pathL c.paths).unwind c else s.pathL c.paths) = b at *
  by_cases h34 : c.kind = 3 ∨ c.kind = 4
  · rw [if_pos h34]
    have hc : OKR (Rs.itemL { b with vars := [] } c.items) := hU.cols (hit h34)
    exact (hc.sorts.chks).setL.nameL
  · rw [if_neg h34]
    exact (hU.chks).setL.nameL
section
variable {m : Int}
def sScopeR : List AV → Option (Prop × AV) := spec2 (fun (q : Query) (_ : Int) => WfQS q ∧ GoodQ q ∧ LabQ q) (fun q n => triA (scopeF q n))
end
end Go.Proofs.YtgjljfbohpnfcaaGreat


/-
  layer 21: the reference's Check; the laws of scopes and of checks.
-/
namespace Go.Proofs.YtgjljfbohpnfcaaGreat
open Go.RowKit
set_option linter.unusedSimpArgs false
set_option linter.unusedVariables false
set_option maxRecDepth 100000

section
variable {m : Int}
noncomputable def CCqR (m : Int) : Ctx := mkC Tryz.prog (G m) [(12, .pure sScopeR)]
@[simp] theorem CCqR_P (m : Int) : (CCqR m).P = Tryz.prog := rfl
@[simp] theorem CCqR_G (m : Int) : (CCqR m).G = (G m) := rfl
@[simp] theorem CCqR_1 (m : Int) : (CCqR m).S 12 = .pure sScopeR := rfl
def sCheckQR : List AV → Option (Prop × AV) := spec1 (fun (q : Query) => WfQS q ∧ GoodQ q ∧ LabQ q) (fun q => triS (checkQ q))
noncomputable def CLsc (m : Int) : Ctx := mkC Tryz.prog (G m) [(9, .pure sLight), (10, .pure sLivesB), (11, .pure sScope), (12, .pure sScopeR), (13, .pure sSame)]
@[simp] theorem CLsc_P (m : Int) : (CLsc m).P = Tryz.prog := rfl
@[simp] theorem CLsc_G (m : Int) : (CLsc m).G = (G m) := rfl
@[simp] theorem CLsc_1 (m : Int) : (CLsc m).S 9 = .pure sLight := rfl
@[simp] theorem CLsc_2 (m : Int) : (CLsc m).S 10 = .pure sLivesB := rfl
@[simp] theorem CLsc_3 (m : Int) : (CLsc m).S 11 = .pure sScope := rfl
@[simp] theorem CLsc_4 (m : Int) : (CLsc m).S 12 = .pure sScopeR := rfl
@[simp] theorem CLsc_5 (m : Int) : (CLsc m).S 13 = .pure sSame := rfl
noncomputable def CLck (m : Int) : Ctx := mkC Tryz.prog (G m) [(9, .pure sLight), (10, .pure sLivesB), (14, .pure sCheckQ), (15, .pure sCheckQR), (16, .pure sTexts)]
@[simp] theorem CLck_P (m : Int) : (CLck m).P = Tryz.prog := rfl
@[simp] theorem CLck_G (m : Int) : (CLck m).G = (G m) := rfl
@[simp] theorem CLck_1 (m : Int) : (CLck m).S 9 = .pure sLight := rfl
@[simp] theorem CLck_2 (m : Int) : (CLck m).S 10 = .pure sLivesB := rfl
@[simp] theorem CLck_3 (m : Int) : (CLck m).S 14 = .pure sCheckQ := rfl
@[simp] theorem CLck_4 (m : Int) : (CLck m).S 15 = .pure sCheckQR := rfl
@[simp] theorem CLck_5 (m : Int) : (CLck m).S 16 = .pure sTexts := rfl
end

theorem len_sumB {α : Type} {b : α → Nat} (h : ∀ a, 1 ≤ b a) : ∀ l : List α, l.length ≤ (l.map b).sum
  | [] => Nat.zero_le _
  | a :: r => by
    have := len_sumB h r
    have := h a
    simp only [List.map_cons, List.sum_cons, List.length_cons]
    omega
theorem labQ_of {q : Query} (h : bulkY q ≤ 1048576) : LabQ q := by
  intro c hc p hp n hn
  have h1 := sum_mem (b := bulkC) hc
  have h2 := sum_mem (b := bulkP) hp
  have h3 := sum_mem (b := bulkN) hn
  have h4 := len_sumB (b := bulkS) (fun s => by unfold bulkS; omega) n.labels
  have h5 := len_sumB (b := bulkQ) (fun s => by unfold bulkQ; omega) n.props
  unfold bulkY bulkL at h
  generalize (q.clauses.map bulkC).sum = S1 at *
  unfold bulkC bulkL at h1
  generalize (c.paths.map bulkP).sum = S2 at *
  unfold bulkP bulkL at h2
  generalize (p.nodes.map bulkN).sum = S3 at *
  unfold bulkN bulkL at h3
  show n.labels.length + n.props.length ≤ 9223372036854775807
  omega
theorem goodQR_of {q : Query} (hw : W0Y q) (h : bulkY q ≤ 1048576) : WfQS q ∧ GoodQ q ∧ LabQ q := ⟨(goodQ_of hw h).1, (goodQ_of hw h).2, labQ_of h⟩
end Go.Proofs.YtgjljfbohpnfcaaGreat


/-
  The frame of a statement of the second form whose contract asks for the world's shape: as the library's own, the shape kept.
-/
namespace Go.Proofs.YtgjljfbohpnfcaaGreat
open Go Go.ChangeShapes

set_option maxRecDepth 100000 in
theorem bulk_bound {H : Type} {l : List (DataW H)} (hk : Rows.uptoSmall H l = true) : Rows.uptoBulkAll l ≤ 1048576 := by
  unfold Rows.uptoSmall at hk
  exact of_decide_eq_true hk
theorem returns_of_cond_shaped {H : Type} {enc : TypeId × Value → H} {a : Assume} {C : Checked} {os : Os} {f : FuncId} {fn : Func} {s : OpenSpec} {k : (H : Type) → List (DataW H) → Bool} (hk : s.cond = some k) {F : Stop.Interp} {conds : List PathCond} {apart fresh handsOn again : Bool}
    (own : ownKnob C.prog.godebug = none) (started : os.Started) (noInit : C.prog.inits.idxOf? f = none) (hfn : C.prog.funcs[f]? = some fn)
    (witness : ∃ (w : World) (tape : Tape) (i : Input), w.os = os ∧ (w.forCall tape i).Shaped C.prog ∧ i.vars = [] ∧ Input.okWide C.prog (w.forCall tape i) .any w.heap.size f i ∧
      s.pre6 enc C.prog fn conds apart (w.forCall tape i).memory i.args ∧ a.holds C.prog (lone (Frame.enter C.prog f i.args .normal) [] (w.forCall tape i)))
    (contract : ∀ (W : World) (base : Nat) (args : Array Value) (ds gs : List (DataW H)) (before : List MemPlace),
      (∀ (j : Nat) t v, fn.params[j]? = some t → args[j]? = some v → Value.okWide C.prog W .any base t v) →
      DataW.Whole enc C.prog fn.params.toList s.vars apart W args.toList ds gs before →
      k H (ds ++ gs) = true → W.ShapedOpen C.prog →
      Calls C.prog f args W fun e W' => ∃ v, e = .returned v ∧ (s.at F).post enc C.prog fn apart fresh handsOn again W args v W') :
    ReturnsInHanded a C os f .any (s.pre6 enc C.prog fn conds apart) ((s.at F).post enc C.prog fn apart fresh handsOn again) := by
  refine returnsInHanded_of_calls own started noInit witness ?_
  intro w tape i _ hsh _ hok hpre hholds
  obtain ⟨_, _, _, fn', hfn', _, _, _, _, hval⟩ := hok
  have e : fn' = fn := Option.some.inj (hfn'.symm.trans hfn)
  subst e
  obtain ⟨ds, gs, before, hw, hc, hkk⟩ := (OpenSpec.pre_some hk conds apart _ _).1 hpre.1
  have hw' := DataW.Whole.of_heap (w' := w.forCall tape i) (by rfl) hw
  refine (contract (w.forCall tape i) w.heap.size i.args ds gs before hval hw' hkk hsh).mono fun e W' ⟨v, he, hp⟩ => ?_
  subst he
  exact ChangeSpec.post_blind hp
end Go.Proofs.YtgjljfbohpnfcaaGreat


/-
  layer 21: all that the frames need.
-/
namespace Go.Proofs.YtgjljfbohpnfcaaGreat
end Go.Proofs.YtgjljfbohpnfcaaGreat
