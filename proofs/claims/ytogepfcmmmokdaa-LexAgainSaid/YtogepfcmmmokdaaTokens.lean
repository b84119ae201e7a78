/-
  The walk of the program's Tokens.
-/
import Derived.Test.YtogepfcmmmokdaaNext
namespace Go.Proofs.Ytogepfcmmmokdaa
open Go.RowKit

theorem runP_step {p : Int → Bool} {s : ByteArray} {k : Nat} (h : k < s.size) (hp : p (bt s k) = true) : k < runP p s k := by
  rw [runP_go h hp]
  have := runP_ge p s _ (k + 1) (Nat.le_refl _)
  omega

theorem textGo_ok (s : ByteArray) (k : Nat) : ∀ (n j : Nat) (acc : List UInt8) (t : Tok) (en : Nat), s.size - j ≤ n → textGo s k j acc = .ok t en → j < en ∧ en ≤ s.size
  | 0, j, acc, t, en, hn, h => by
    rw [textGo, if_neg (by omega)] at h
    cases h
  | n + 1, j, acc, t, en, hn, h => by
    rw [textGo] at h
    by_cases hlt : j < s.size
    · rw [if_pos hlt] at h
      by_cases h1 : bt s j = 39 ∧ j + 1 < s.size ∧ bt s (j + 1) = 39
      · rw [if_pos h1] at h
        have := textGo_ok s k n (j + 2) _ t en (by omega) h
        omega
      · rw [if_neg h1] at h
        by_cases h2 : bt s j = 39
        · rw [if_pos h2] at h
          split at h
          · cases h
          · injection h with _ h
            omega
        · rw [if_neg h2] at h
          split at h
          · cases h
          · have := textGo_ok s k n (j + 1) _ t en (by omega) h
            omega
    · rw [if_neg hlt] at h
      cases h

theorem stepR_ok {s : ByteArray} {k : Nat} {t : Tok} {en : Nat} (hk : k < s.size) (h : stepR s k = .ok t en) : k < en ∧ en ≤ s.size := by
  unfold stepR at h
  by_cases h1 : letterB (bt s k) = true
  · rw [if_pos h1] at h
    have h2 := runP_step (p := wordB) hk (by simp [wordB, h1])
    have h3 := runP_le wordB s _ k (Nat.le_refl _) (by omega)
    simp only [wordR] at h
    split at h
    · injection h with _ h; omega
    · split at h
      · cases h
      · injection h with _ h; omega
  · rw [if_neg h1] at h
    by_cases h2 : digitB (bt s k) = true
    · rw [if_pos h2] at h
      have h4 := runP_step (p := digitB) hk h2
      have h5 := runP_le digitB s _ k (Nat.le_refl _) (by omega)
      simp only [numR] at h
      split at h
      · cases h
      · split at h
        · cases h
        · split at h
          · cases h
          · injection h with _ h; omega
    · rw [if_neg h2] at h
      by_cases h3 : bt s k = 39
      · rw [if_pos h3] at h
        have := textGo_ok s k _ (k + 1) [] t en (Nat.le_refl _) h
        omega
      · rw [if_neg h3] at h
        simp only [signR] at h
        split at h
        · injection h with _ h; omega
        · split at h
          · injection h with _ h; omega
          · cases h

inductive Out where
  | done (ts : List Tok)
  | fault (a c : Int)

def endTok (s : ByteArray) : Tok := ⟨0, s.size, 0, 0, ⟨#[]⟩⟩

/-- The tokens from k on, with f steps at most. -/
def lexGo (s : ByteArray) : Nat → Nat → List Tok → Out
  | 0, _, _ => .fault 0 0
  | f + 1, k, ts =>
    if runP spaceB s k = s.size then .done (ts ++ [endTok s])
    else match stepR s (runP spaceB s k) with
      | .ok t en => lexGo s f en (ts ++ [t])
      | .err a c => .fault a c

def tokens (s : ByteArray) : Out := if 2000 < s.size then .fault 0 4 else lexGo s (s.size + 1) 0 []

/-- The slice value v reads as the tokens ts. -/
def ToksAt (w : World) (v : Value) (ts : List Tok) : Prop :=
  ∃ (A : Option Addr) (n c : Nat), v = .slice A n c ∧ ts.length = n ∧ n ≤ c ∧ c ≤ maxLen ∧ (0 < n → ∃ b off, A = some ⟨b, off, none⟩ ∧ ∀ j (hj : j < ts.length) i u, ts[j].cells[i]? = some u → w.cell? ⟨b, off + j * 5 + i, none⟩ = some u)

theorem flat_get : ∀ (ts : List Tok) (j : Nat) (hj : j < ts.length) (i : Nat), i < 5 → (ts.flatMap Tok.cells)[j * 5 + i]? = ts[j].cells[i]?
  | t :: r, 0, _, i, hi => by
    rw [List.flatMap_cons, List.getElem?_append_left (by simp [Tok.cells]; omega)]
    simp
  | t :: r, j + 1, hj, i, hi => by
    rw [List.flatMap_cons, List.getElem?_append_right (by simp [Tok.cells]; omega)]
    have := flat_get r j (by simpa using hj) i hi
    rw [show (j + 1) * 5 + i - t.cells.length = j * 5 + i by simp [Tok.cells]; omega, this]
    simp

theorem OwnT.toks {w : World} {B : Nat} {v : Value} {ts : List Tok} (h : OwnT w B v ts) : ToksAt w v ts := by
  have h0 := h
  obtain ⟨_, h2⟩ := h
  rcases h2 with ⟨rfl, h2⟩ | ⟨g, cap, cur, rfl, _, _, hc, hm, _⟩
  · exact ⟨none, 0, 0, rfl, h2, Nat.le_refl _, Nat.zero_le _, fun h => absurd h (by omega)⟩
  · refine ⟨_, _, cap, rfl, rfl, hc, hm, fun _ => ⟨g, 0, rfl, fun j hj i u hu => ?_⟩⟩
    have hi : i < 5 := by
      have := (List.getElem?_eq_some_iff.1 hu).1
      simpa [Tok.cells] using this
    rw [Nat.zero_add, World.ownsRow.cellAt h0 _ (by omega), flat_get ts j hj i hi, hu]

theorem ToksAt.below {w w' : World} {v : Value} {ts : List Tok} {B : Nat} (h : ToksAt w v ts) (hb : Below B w w') (hB : w.heap.size ≤ B) : ToksAt w' v ts := by
  obtain ⟨A, n, c, rfl, hl, hc, hm, hr⟩ := h
  refine ⟨A, n, c, rfl, hl, hc, hm, fun h0 => ?_⟩
  obtain ⟨b, off, rfl, hx⟩ := hr h0
  exact ⟨b, off, rfl, fun j hj i u hu => Go.Proofs.Ytogepfcmmmokdaa.cell_later hb hB (hx j hj i u hu)⟩

/-- What Tokens hands back. -/
def RetTok (w : World) : Out → Ending → World → Prop
  | .done ts, e, w' => ∃ v, e = .returned (.tuple #[v, .int .i64 0, .int .i64 0]) ∧ ToksAt w' v ts ∧ Below w.heap.size w w'
  | .fault a c, e, w' => e = .returned (.tuple #[.slice none 0 0, .int .i64 a, .int .i64 c]) ∧ Below w.heap.size w w'

/-- The place in the scanner's block: for the loop's measure. -/
def atOf (w : World) (X : Nat) : Nat := match w.cell? ⟨X, 1, none⟩ with | some (.int _ n) => n.toNat | _ => 0
theorem atOf_eq {w : World} {B X k : Nat} {s : ByteArray} {ts : List Tok} (h : Sc w B X s (k : Int) ts) : atOf w X = k := by
  unfold atOf
  rw [h.cell1]
  simp

theorem Sc.setAt {w : World} {B X : Nat} {s : ByteArray} {k : Int} {ts : List Tok} (h : Sc w B X s k ts) (en : Int) : Sc (w.setCell ⟨X, 1, none⟩ (.int .i64 en)) B X s en ts := by
  obtain ⟨⟨A, n, c, hh, ho, hx⟩, hB⟩ := h
  refine ⟨⟨A, n, c, row_set hh 1 _, ?_, hx⟩, hB⟩
  obtain ⟨h1, h2⟩ := ho
  refine ⟨h1, ?_⟩
  rcases h2 with h2 | ⟨g, cap, cur, hv, hg, hh', r⟩
  · exact .inl h2
  · refine .inr ⟨g, cap, cur, hv, hg, ?_, r⟩
    rw [Below.heap_setCell _ _ _ _ (fun e => hx (by rw [hv, e]; rfl))]
    exact hh'

theorem Sc.new (w : World) (s : ByteArray) : Sc (w.alloc (.cells #[.string s, .int .i64 0, .slice none 0 0] 34)) w.heap.size w.heap.size s 0 [] :=
  ⟨⟨none, 0, 0, heap_alloc_new w _, World.ownsRow_nil _ _ _ _, by simp [Value.ownBlock]⟩, Nat.le_refl _⟩

theorem Sc.frozen1 {w : World} {B X : Nat} {s : ByteArray} {k : Int} {ts : List Tok} (h : Sc w B X s k ts) : w.frozen? ⟨X, 1, none⟩ = false := by
  obtain ⟨⟨A, n, c, hh, _⟩, _⟩ := h
  exact row_frozen hh 1

set_option maxRecDepth 100000 in
set_option maxHeartbeats 4000000 in
theorem tokens9 (s : ByteArray) (w : World) (hM : HasMax w) : Calls Try.prog 9 #[.string s] w (RetTok w (tokens s)) := by
  by_cases hbig : 2000 < s.size
  · have HS : Hid (tokens s = .fault 0 4) := Lib.hid (by rw [tokens, if_pos hbig])
    rw [HS.out]
    go_enter Try.func9, Try.ntmps9
    go_wp2_with fail
    go_ret3
    exact ⟨rfl, Below.refl _ _⟩
  · have HT : Hid (tokens s = lexGo s (s.size + 1) 0 []) := Lib.hid (by rw [tokens, if_neg hbig])
    have hs : s.size ≤ 2000 := by omega
    have hsi : ¬ (2000 : Int) < (s.size : Int) := by omega
    clear hbig
    go_enter Try.func9, Try.ntmps9
    go_wp2_with fail
    go_loopw [6] (fun _ wr => ∃ (f k : Nat) (ts : List Tok), Sc wr w.heap.size w.heap.size s k ts ∧ Below w.heap.size w wr ∧ k ≤ s.size ∧ s.size - k < f ∧ ts.length ≤ k ∧ lexGo s f k ts = tokens s)
      (fun _ wr => s.size + 1 - atOf wr w.heap.size)
    case atStart => exact ⟨s.size + 1, 0, [], Sc.new w s, (Below.refl _ w).alloc (Nat.le_refl _) _, Nat.zero_le _, by omega, by simp, HT.out.symm⟩
    case round =>
      obtain ⟨f, k, ts, hSc, hb, hk, hf, hlen, hr⟩ := hrel
      have HR := Lib.hid hr; clear hr
      have c0 := hSc.cell0
      have c1 := hSc.cell1
      have f1 := hSc.frozen1
      have hge := runP_ge spaceB s _ k (Nat.le_refl _)
      have hle := runP_le spaceB s _ k (Nat.le_refl _) hk
      obtain ⟨f, rfl⟩ : ∃ g, f = g + 1 := ⟨f - 1, by omega⟩
      have hG : lexGo s (f + 1) k ts = if runP spaceB s k = s.size then .done (ts ++ [endTok s])
        else match stepR s (runP spaceB s k) with
          | .ok t en => lexGo s f en (ts ++ [t])
          | .err a c => .fault a c := rfl
      generalize hk1 : runP spaceB s k = k1 at *
      have HK1 := Lib.hid hk1; clear hk1
      have HG := Lib.hid hG; clear hG
      have hSc1 := hSc.setAt (k1 : Int)
      have hb1 := hb.setCell (p := ⟨w.heap.size, 1, none⟩) (Nat.le_refl _) (.int .i64 (k1 : Int))
      go_wp2_with fail
      refine (run17_18 w.heap.size k s _ c0 (by omega) hk).mono ?_
      rintro e w1 ⟨rfl, rfl⟩
      rw [HK1.out]
      have e0 := hSc1.cell0
      have e1 := hSc1.cell1
      by_cases hend : k1 = s.size
      · have HS : Hid (tokens s = .done (ts ++ [endTok s])) := Lib.hid (by rw [← HR.out, HG.out, if_pos hend])
        have heq : ((k1 : Int) == (s.size : Int)) = true := by rw [hend]; simp
        have hend' := Lib.hid hend
        clear hend
        go_wp2_with fail
        refine (emit19 w.heap.size w.heap.size s ⟨#[]⟩ k1 0 k1 0 ts _ hSc1 (by omega) (by omega) (by omega)).mono ?_
        rintro e w2 ⟨rfl, hS2, hb2⟩
        have hb2' := hb1.trans hb2
        obtain ⟨⟨A, n, c, hh, ho, _⟩, _⟩ := hS2
        have g2 : w2.cell? ⟨w.heap.size, 2, none⟩ = some (.slice A n c) := (row_cell hh 2).trans rfl
        have ht := ho.toks
        have HH := Lib.hid hh; clear hh
        go_wp2_with fail
        go_ret3
        rw [HS.out]
        refine ⟨_, rfl, ?_, hb2'⟩
        have e : (⟨0, (k1 : Int), (k1 : Int) - k1, 0, ⟨#[]⟩⟩ : Tok) = endTok s := by
          unfold endTok
          rw [hend'.out, Int.sub_self]
        rw [← e]
        exact ht
      · have HN : Hid (tokens s = match stepR s k1 with
          | .ok t en => lexGo s f en (ts ++ [t])
          | .err a c => .fault a c) := Lib.hid (by rw [← HR.out, HG.out, if_neg hend])
        have heq : ((k1 : Int) == (s.size : Int)) = false := by simp; omega
        have hk1 : k1 < s.size := by omega
        have hM1 : HasMax (wr.setCell ⟨w.heap.size, 1, none⟩ (.int .i64 (k1 : Int))) := hM.below hb1 (Nat.le_refl _)
        clear hend
        rcases hr : stepR s k1 with ⟨t, en⟩ | ⟨a, c⟩
        · have hen := stepR_ok hk1 hr
          rw [hr] at HN
          have HRR := Lib.hid hr; clear hr
          go_wp2_with fail
          refine (next20 w.heap.size w.heap.size s k1 ts _ hSc1 hM1 hs hk1 (by omega)).mono ?_
          rintro e w2 hst
          rw [HRR.out] at hst
          obtain ⟨rfl, hS2, hb2⟩ := hst
          have hb2' := hb1.trans hb2
          have ha := atOf_eq hS2
          have ha0 := atOf_eq hSc
          have HA := Lib.hid ha; clear ha
          have HA0 := Lib.hid ha0; clear ha0
          go_wp2_with fail
          go_roundw
          case rel => exact ⟨f, en, ts ++ [t], hS2, hb2', hen.2, by omega, by simp; omega, HN.out.symm⟩
          case measure => rw [HA.out, HA0.out]; omega
        · rw [hr] at HN
          have HRR := Lib.hid hr; clear hr
          go_wp2_with fail
          refine (next20 w.heap.size w.heap.size s k1 ts _ hSc1 hM1 hs hk1 (by omega)).mono ?_
          rintro e w2 hst
          rw [HRR.out] at hst
          obtain ⟨F, rfl, hF, hb2⟩ := hst
          have hb2' := hb1.trans hb2
          have g0 : w2.cell? ⟨F, 0, none⟩ = some (.int .i64 a) := (row_cell hF 0).trans rfl
          have g1 : w2.cell? ⟨F, 1, none⟩ = some (.int .i64 c) := (row_cell hF 1).trans rfl
          have HF := Lib.hid hF; clear hF
          go_wp2_with fail
          go_quiet (fail)
          go_wp2_with fail
          go_ret3
          rw [HN.out]
          exact ⟨rfl, below_drewN hb2' _⟩

end Go.Proofs.Ytogepfcmmmokdaa
