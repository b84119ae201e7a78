/-
  The walk of the program's Tokens once more: the tokens are the call's own.
-/
import Derived.Test.YtogepfcmmmokdaaTokens
namespace Go.Proofs.Ytogepfcmmmokdaa
open Go.RowKit

def RetTokO (w : World) : Out → Ending → World → Prop
  | .done ts, e, w' => ∃ v, e = .returned (.tuple #[v, .int .i64 0, .int .i64 0]) ∧ OwnT w' w.heap.size v ts ∧ Below w.heap.size w w'
  | .fault a c, e, w' => e = .returned (.tuple #[.slice none 0 0, .int .i64 a, .int .i64 c]) ∧ Below w.heap.size w w'

set_option maxRecDepth 100000 in
set_option maxHeartbeats 4000000 in
theorem tokens9o (s : ByteArray) (w : World) (hM : HasMax w) : Calls Try.prog 9 #[.string s] w (RetTokO w (tokens s)) := by
  by_cases hbig : 2000 < s.size
  · have HS : Hid (tokens s = .fault 0 4) := Lib.hid (by rw [tokens, if_pos hbig])
    rw [HS.out]
    go_enter Try.func9, Try.ntmps9
    go_wp2_with fail
    go_ret3
    exact ⟨rfl, Below.refl _ _⟩
  · have HT : Hid (tokens s = lexGo s (s.size + 1) 0 []) := Lib.hid (by rw [tokens, if_neg hbig])
    have hs : s.size ≤ 2000 := by omega
    have hsi : ¬ (2000 : Int) < (s.size : Int) := by omega
    clear hbig
    go_enter Try.func9, Try.ntmps9
    go_wp2_with fail
    go_loopw [6] (fun _ wr => ∃ (f k : Nat) (ts : List Tok), Sc wr w.heap.size w.heap.size s k ts ∧ Below w.heap.size w wr ∧ k ≤ s.size ∧ s.size - k < f ∧ ts.length ≤ k ∧ lexGo s f k ts = tokens s)
      (fun _ wr => s.size + 1 - atOf wr w.heap.size)
    case atStart => exact ⟨s.size + 1, 0, [], Sc.new w s, (Below.refl _ w).alloc (Nat.le_refl _) _, Nat.zero_le _, by omega, by simp, HT.out.symm⟩
    case round =>
      obtain ⟨f, k, ts, hSc, hb, hk, hf, hlen, hr⟩ := hrel
      have HR := Lib.hid hr; clear hr
      have c0 := hSc.cell0
      have c1 := hSc.cell1
      have f1 := hSc.frozen1
      have hge := runP_ge spaceB s _ k (Nat.le_refl _)
      have hle := runP_le spaceB s _ k (Nat.le_refl _) hk
      obtain ⟨f, rfl⟩ : ∃ g, f = g + 1 := ⟨f - 1, by omega⟩
      have hG : lexGo s (f + 1) k ts = if runP spaceB s k = s.size then .done (ts ++ [endTok s])
        else match stepR s (runP spaceB s k) with
          | .ok t en => lexGo s f en (ts ++ [t])
          | .err a c => .fault a c := rfl
      generalize hk1 : runP spaceB s k = k1 at *
      have HK1 := Lib.hid hk1; clear hk1
      have HG := Lib.hid hG; clear hG
      have hSc1 := hSc.setAt (k1 : Int)
      have hb1 := hb.setCell (p := ⟨w.heap.size, 1, none⟩) (Nat.le_refl _) (.int .i64 (k1 : Int))
      go_wp2_with fail
      refine (run17_18 w.heap.size k s _ c0 (by omega) hk).mono ?_
      rintro e w1 ⟨rfl, rfl⟩
      rw [HK1.out]
      have e0 := hSc1.cell0
      have e1 := hSc1.cell1
      by_cases hend : k1 = s.size
      · have HS : Hid (tokens s = .done (ts ++ [endTok s])) := Lib.hid (by rw [← HR.out, HG.out, if_pos hend])
        have heq : ((k1 : Int) == (s.size : Int)) = true := by rw [hend]; simp
        have hend' := Lib.hid hend
        clear hend
        go_wp2_with fail
        refine (emit19 w.heap.size w.heap.size s ⟨#[]⟩ k1 0 k1 0 ts _ hSc1 (by omega) (by omega) (by omega)).mono ?_
        rintro e w2 ⟨rfl, hS2, hb2⟩
        have hb2' := hb1.trans hb2
        obtain ⟨⟨A, n, c, hh, ho, _⟩, _⟩ := hS2
        have g2 : w2.cell? ⟨w.heap.size, 2, none⟩ = some (.slice A n c) := (row_cell hh 2).trans rfl
        have ht := ho
        have HH := Lib.hid hh; clear hh
        go_wp2_with fail
        go_ret3
        rw [HS.out]
        refine ⟨_, rfl, ?_, hb2'⟩
        have e : (⟨0, (k1 : Int), (k1 : Int) - k1, 0, ⟨#[]⟩⟩ : Tok) = endTok s := by
          unfold endTok
          rw [hend'.out, Int.sub_self]
        rw [← e]
        exact ht
      · have HN : Hid (tokens s = match stepR s k1 with
          | .ok t en => lexGo s f en (ts ++ [t])
          | .err a c => .fault a c) := Lib.hid (by rw [← HR.out, HG.out, if_neg hend])
        have heq : ((k1 : Int) == (s.size : Int)) = false := by simp; omega
        have hk1 : k1 < s.size := by omega
        have hM1 : HasMax (wr.setCell ⟨w.heap.size, 1, none⟩ (.int .i64 (k1 : Int))) := hM.below hb1 (Nat.le_refl _)
        clear hend
        rcases hr : stepR s k1 with ⟨t, en⟩ | ⟨a, c⟩
        · have hen := stepR_ok hk1 hr
          rw [hr] at HN
          have HRR := Lib.hid hr; clear hr
          go_wp2_with fail
          refine (next20 w.heap.size w.heap.size s k1 ts _ hSc1 hM1 hs hk1 (by omega)).mono ?_
          rintro e w2 hst
          rw [HRR.out] at hst
          obtain ⟨rfl, hS2, hb2⟩ := hst
          have hb2' := hb1.trans hb2
          have ha := atOf_eq hS2
          have ha0 := atOf_eq hSc
          have HA := Lib.hid ha; clear ha
          have HA0 := Lib.hid ha0; clear ha0
          go_wp2_with fail
          go_roundw
          case rel => exact ⟨f, en, ts ++ [t], hS2, hb2', hen.2, by omega, by simp; omega, HN.out.symm⟩
          case measure => rw [HA.out, HA0.out]; omega
        · rw [hr] at HN
          have HRR := Lib.hid hr; clear hr
          go_wp2_with fail
          refine (next20 w.heap.size w.heap.size s k1 ts _ hSc1 hM1 hs hk1 (by omega)).mono ?_
          rintro e w2 hst
          rw [HRR.out] at hst
          obtain ⟨F, rfl, hF, hb2⟩ := hst
          have hb2' := hb1.trans hb2
          have g0 : w2.cell? ⟨F, 0, none⟩ = some (.int .i64 a) := (row_cell hF 0).trans rfl
          have g1 : w2.cell? ⟨F, 1, none⟩ = some (.int .i64 c) := (row_cell hF 1).trans rfl
          have HF := Lib.hid hF; clear hF
          go_wp2_with fail
          go_quiet (fail)
          go_wp2_with fail
          go_ret3
          rw [HN.out]
          exact ⟨rfl, below_drewN hb2' _⟩

end Go.Proofs.Ytogepfcmmmokdaa
