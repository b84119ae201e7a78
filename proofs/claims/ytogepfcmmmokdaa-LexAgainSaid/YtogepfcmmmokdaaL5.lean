/-
  lex: the texts of the tokens, parted by blanks, give the same tokens. Plain.
-/
import Derived.Test.YtogepfcmmmokdaaL4
import Derived.Test.YtogepfcmmmokdaaPlaces
namespace Go.Proofs.Ytogepfcmmmokdaa
open Go.RowKit
set_option linter.unusedSimpArgs false
set_option linter.unusedVariables false

/-- The tokens from place k on. -/
inductive Chain (s : ByteArray) : Nat → List Tok → Prop
  | fin (k : Nat) (h : runP spaceB s k = s.size) : Chain s k [endTok s]
  | tok (k : Nat) (t : Tok) (en : Nat) (r : List Tok) (hk : runP spaceB s k < s.size) (hst : stepR s (runP spaceB s k) = .ok t en) (h : Chain s en r) : Chain s k (t :: r)

theorem runP_again {pr : Int → Bool} {s : ByteArray} : ∀ (m k : Nat), s.size - k ≤ m → runP pr s (runP pr s k) = runP pr s k
  | m, k, hm => by
    by_cases h : k < s.size ∧ pr (bt s k) = true
    · obtain ⟨m, rfl⟩ : ∃ g, m = g + 1 := ⟨m - 1, by omega⟩
      rw [runP_go h.1 h.2]
      exact runP_again m (k + 1) (by omega)
    · have : runP pr s k = k := by rw [runP, if_neg h]
      rw [this, this]
theorem runP_runP {pr : Int → Bool} {s : ByteArray} (k : Nat) : runP pr s (runP pr s k) = runP pr s k := runP_again _ k (Nat.le_refl _)

theorem lexGo_chain {s : ByteArray} : ∀ (f k : Nat) (ts us : List Tok), k ≤ s.size → lexGo s f k ts = .done us → ∃ r, us = ts ++ r ∧ Chain s k r
  | 0, k, ts, us, _, h => by cases h
  | f + 1, k, ts, us, hk, h => by
    have hle := runP_le spaceB s _ k (Nat.le_refl _) hk
    rw [lexGo] at h
    split at h
    · rename_i he
      injection h with h
      exact ⟨[endTok s], h.symm, .fin k he⟩
    · rename_i hne
      have hlt : runP spaceB s k < s.size := by omega
      split at h
      · rename_i t en hst
        have h1 := stepR_ok hlt hst
        obtain ⟨r, h2, h3⟩ := lexGo_chain f en (ts ++ [t]) us h1.2 h
        exact ⟨t :: r, by rw [h2]; simp, .tok k t en r hlt hst h3⟩
      · cases h
theorem chain_lexGo {s : ByteArray} {k : Nat} {r : List Tok} (h : Chain s k r) : ∀ (f : Nat) (ts : List Tok), s.size - k < f → lexGo s f k ts = .done (ts ++ r) := by
  induction h with
  | fin k he =>
    intro f ts hf
    obtain ⟨f, rfl⟩ : ∃ g, f = g + 1 := ⟨f - 1, by omega⟩
    rw [lexGo, if_pos he]
  | tok k t en r hlt hst h ih =>
    intro f ts hf
    obtain ⟨f, rfl⟩ : ∃ g, f = g + 1 := ⟨f - 1, by omega⟩
    have hge := runP_ge spaceB s _ k (Nat.le_refl _)
    have h1 := stepR_ok hlt hst
    rw [lexGo, if_neg (by omega), hst]
    simp only
    rw [ih f (ts ++ [t]) (by omega)]
    simp
theorem chain_space {s : ByteArray} {k : Nat} {r : List Tok} (hk : k < s.size) (hs : spaceB (bt s k) = true) (h : Chain s (k + 1) r) : Chain s k r := by
  have e := runP_go hk hs
  cases h with
  | fin _ he => exact .fin k (by rw [e]; exact he)
  | tok _ t en r hlt hst h => exact .tok k t en r (by rw [e]; exact hlt) (by rw [e]; exact hst) h

/-- t reads at place p as s at place k, for n bytes, and then comes a blank. -/
structure Same8 (s t : ByteArray) (k p n : Nat) : Prop where
  fit : p + n < t.size
  byte : ∀ i, i < n → bt t (p + i) = bt s (k + i)
  blank : bt t (p + n) = 32

theorem runP_const {pr : Int → Bool} {t : ByteArray} : ∀ (n p : Nat), p + n < t.size → (∀ i, i < n → pr (bt t (p + i)) = true) → pr (bt t (p + n)) = false → runP pr t p = p + n
  | 0, p, hf, _, hb => runP_stop (fun _ => hb)
  | n + 1, p, hf, ha, hb => by
    rw [runP_go (by omega) (show pr (bt t p) = true from ha 0 (by omega)), runP_const n (p + 1) (by omega) (fun i hi => by rw [show p + 1 + i = p + (i + 1) by omega]; exact ha (i + 1) (by omega)) (by rwa [show p + 1 + n = p + (n + 1) by omega])]
    omega
theorem extract_same {s t : ByteArray} {k p n : Nat} (h : Same8 s t k p n) (hk : k + n ≤ s.size) : ∀ m, m ≤ n → t.extract p (p + m) = s.extract k (k + m) := by
  intro m hm
  have := h.fit
  refine str_ext (by rw [extract_size (by omega) (by omega), extract_size (by omega) (by omega)]; omega) fun i hi => ?_
  rw [extract_size (by omega) (by omega)] at hi
  rw [bt_btA, bt_btA, bt_extract (by omega), bt_extract (by omega)]
  exact h.byte i (by omega)

theorem textGo_same {s t : ByteArray} {k p : Nat} {x : Tok} {en : Nat} (hk : k < en) (h : Same8 s t k p (en - k)) : ∀ (m d : Nat) (acc : List UInt8), s.size - (k + d) ≤ m → textGo s k (k + d) acc = .ok x en → textGo t p (p + d) acc = .ok { x with at_ := p } (p + (en - k))
  | m, d, acc, hm, hx => by
    have hok := textGo_ok s k m (k + d) acc x en hm hx
    have hfit := h.fit
    have b0 := h.byte d (by omega)
    have y0 : byteAt t (p + d) = byteAt s (k + d) := UInt8.toNat_inj.1 b0
    rw [textGo] at hx ⊢
    rw [if_pos (show k + d < s.size by omega)] at hx
    rw [if_pos (show p + d < t.size by omega), b0, y0]
    by_cases h1 : bt s (k + d) = 39
    · by_cases h2 : k + d + 1 < s.size ∧ bt s (k + d + 1) = 39
      · rw [if_pos ⟨h1, h2⟩] at hx
        obtain ⟨m, rfl⟩ : ∃ g, m = g + 1 := ⟨m - 1, by omega⟩
        have hok2 := textGo_ok s k m (k + d + 2) _ x en (by omega) hx
        have b1 := h.byte (d + 1) (by omega)
        rw [if_pos ⟨h1, by omega, by rw [show p + d + 1 = p + (d + 1) by omega, b1]; exact h2.2⟩]
        exact textGo_same hk h m (d + 2) _ (by omega) hx
      · rw [if_neg (fun hh => h2 hh.2), if_pos h1] at hx
        split at hx
        · cases hx
        · rename_i h100
          injection hx with hx1 hx2
          have hen : en = k + d + 1 := hx2.symm
          have hb := h.blank
          rw [show p + (en - k) = p + d + 1 by omega] at hb
          rw [if_neg (fun hh => by rw [hb] at hh; omega), if_pos h1, if_neg h100, ← hx1]
          congr 1
          · simp only [Tok.mk.injEq, true_and, and_true]
            omega
          · omega
    · rw [if_neg (fun hh => h1 hh.1), if_neg h1] at hx
      rw [if_neg (fun hh => h1 hh.1), if_neg h1]
      split at hx
      · cases hx
      · rename_i hrange
        rw [if_neg hrange]
        obtain ⟨m, rfl⟩ : ∃ g, m = g + 1 := ⟨m - 1, by omega⟩
        exact textGo_same hk h m (d + 1) _ (by omega) hx

theorem numTo_same {s t : ByteArray} {k p n : Nat} (h : Same8 s t k p n) : ∀ i, i ≤ n → numTo t p i = numTo s k i
  | 0, _ => rfl
  | i + 1, hi => by rw [numTo, numTo, numTo_same h i (by omega), h.byte i (by omega)]

theorem wordR_same {s t : ByteArray} {k p : Nat} {x : Tok} {en : Nat} (hk : k < en) (hle : en ≤ s.size) (h : Same8 s t k p (en - k)) (hx : wordR s k = .ok x en) : wordR t p = .ok { x with at_ := p } (p + (en - k)) := by
  have hen : runP wordB s k = en := by
    simp only [wordR] at hx
    split at hx
    · injection hx
    · split at hx
      · cases hx
      · injection hx
  have hr : runP wordB t p = p + (en - k) := runP_const _ _ h.fit (fun i hi => by rw [h.byte i hi]; exact runP_all wordB s _ k (Nat.le_refl _) _ (by omega) (by rw [hen]; omega)) (by rw [h.blank]; decide)
  have hex := extract_same h (by omega) (en - k) (Nat.le_refl _)
  rw [show k + (en - k) = en by omega] at hex
  simp only [wordR, hen] at hx
  simp only [wordR, hr, hex]
  have hsz : ((p + (en - k) : Nat) : Int) - p = (en : Int) - k := by omega
  split at hx
  · rename_i h1
    rw [if_pos h1]
    injection hx with hx1 _
    rw [← hx1, hsz]
  · rename_i h1
    rw [if_neg h1]
    split at hx
    · cases hx
    · rename_i h2
      rw [if_neg h2]
      injection hx with hx1 _
      rw [← hx1, hsz]

theorem numR_same {s t : ByteArray} {k p : Nat} {x : Tok} {en : Nat} (hk : k < en) (hle : en ≤ s.size) (h : Same8 s t k p (en - k)) (hx : numR s k = .ok x en) : numR t p = .ok { x with at_ := p } (p + (en - k)) := by
  have hen : runP digitB s k = en := by
    simp only [numR] at hx
    split at hx
    · cases hx
    · split at hx
      · cases hx
      · split at hx
        · cases hx
        · injection hx
  have hr : runP digitB t p = p + (en - k) := runP_const _ _ h.fit (fun i hi => by rw [h.byte i hi]; exact runP_all digitB s _ k (Nat.le_refl _) _ (by omega) (by rw [hen]; omega)) (by rw [h.blank]; decide)
  have hn := numTo_same h (en - k) (Nat.le_refl _)
  have hfirst := h.byte 0 (by omega)
  simp only [Nat.add_zero] at hfirst
  simp only [numR, hen] at hx
  simp only [numR, hr]
  rw [show p + (en - k) - p = en - k by omega, hn, hfirst]
  split at hx
  · cases hx
  · rename_i h1
    rw [if_neg h1]
    split at hx
    · cases hx
    · rename_i h2
      rw [if_neg h2]
      split at hx
      · cases hx
      · rw [if_neg (by rw [h.blank]; rintro ⟨_, hh | hh⟩ <;> revert hh <;> decide)]
        injection hx with hx1 _
        rw [← hx1]
        congr 1
        simp only [Tok.mk.injEq, true_and, and_true]
        omega

theorem two_bytes {t : ByteArray} {p : Nat} (h : p + 1 < t.size) : (t.extract p (p + 2)).toList = [byteAt t p, byteAt t (p + 1)] := by
  have e : t.extract p (p + 2) = ⟨#[byteAt t p, byteAt t (p + 1)]⟩ := by
    refine str_ext (by rw [extract_size (by omega) (by omega)]; show p + 2 - p = 2; omega) fun i hi => ?_
    rw [extract_size (by omega) (by omega)] at hi
    rw [bt_btA, bt_extract (by omega)]
    match i, hi with
    | 0, _ => rfl
    | 1, _ => rfl
    | i + 2, hi => omega
  rw [e, ByteArray.toList_mk]
theorem signR_same {s t : ByteArray} {k p : Nat} {x : Tok} {en : Nat} (hk : k < en) (hle : en ≤ s.size) (h : Same8 s t k p (en - k)) (hx : signR s k = .ok x en) : signR t p = .ok { x with at_ := p } (p + (en - k)) := by
  have hfit := h.fit
  unfold signR at hx ⊢
  split at hx
  · rename_i h1
    injection hx with hx1 hx2
    have hex := extract_same h (by omega) 2 (by omega)
    rw [if_pos ⟨by omega, by rw [hex]; exact h1.2⟩, hex, ← hx1]
    congr 1
    omega
  · rename_i h1
    split at hx
    · rename_i h2
      injection hx with hx1 hx2
      have hex := extract_same h (by omega) 1 (by omega)
      have hb := h.blank
      rw [show p + (en - k) = p + 1 by omega] at hb
      have h32 : byteAt t (p + 1) = 32 := UInt8.toNat_inj.1 hb
      have hno : isTwo (t.extract p (p + 2)).toList = false := by
        rw [two_bytes (by omega), h32]
        simp [isTwo]
      rw [if_neg (fun hh => by rw [hno] at hh; exact absurd hh.2 (by decide)), if_pos (by rw [hex]; exact h2), hex, ← hx1]
      congr 1
      omega
    · cases hx

theorem stepR_same {s t : ByteArray} {k p : Nat} {x : Tok} {en : Nat} (hks : k < s.size) (hx : stepR s k = .ok x en) (h : Same8 s t k p (en - k)) : stepR t p = .ok { x with at_ := p } (p + (en - k)) := by
  obtain ⟨hk, hle⟩ := stepR_ok hks hx
  have hfirst := h.byte 0 (by omega)
  simp only [Nat.add_zero] at hfirst
  unfold stepR at hx ⊢
  rw [hfirst]
  split at hx
  · rename_i h1; rw [if_pos h1]; exact wordR_same hk hle h hx
  · rename_i h1; rw [if_neg h1]
    split at hx
    · rename_i h2; rw [if_pos h2]; exact numR_same hk hle h hx
    · rename_i h2; rw [if_neg h2]
      split at hx
      · rename_i h3; rw [if_pos h3]
        exact textGo_same hk h s.size 1 [] (by omega) hx
      · rename_i h3; rw [if_neg h3]; exact signR_same hk hle h hx

/-- The texts of some tokens, a blank behind each. -/
def joinT (s : ByteArray) : List Tok → List UInt8
  | [] => []
  | x :: r => (s.extract x.at_.toNat (x.at_ + x.size).toNat).data.toList ++ 32 :: joinT s r
theorem joinT_append (s : ByteArray) : ∀ a b, joinT s (a ++ b) = joinT s a ++ joinT s b
  | [], b => rfl
  | x :: r, b => by rw [List.cons_append, joinT, joinT, joinT_append s r b]; simp

def zeroAt (x : Tok) : Tok := { x with at_ := 0 }

theorem bt_bs (l : List UInt8) (i : Nat) : bt (bs l) i = (l.getD i 0).toNat := rfl
theorem bt_pre (a l : List UInt8) (i : Nat) : bt (bs (a ++ l)) (a.length + i) = (l.getD i 0).toNat := by
  rw [bt_bs, List.getD_eq_getElem?_getD, List.getElem?_append_right (by omega), Nat.add_sub_cancel_left, ← List.getD_eq_getElem?_getD]
theorem getD_text {s : ByteArray} {a b i : Nat} (h : i < b - a) (rest : List UInt8) (hb : b ≤ s.size) : ((s.extract a b).data.toList ++ rest).getD i 0 = byteAt s (a + i) := by
  have hl : i < (s.extract a b).data.toList.length := by
    have : (s.extract a b).size = b - a := extract_size (by omega) hb
    simp only [Array.length_toList]
    show i < (s.extract a b).size
    omega
  rw [List.getD_eq_getElem?_getD, List.getElem?_append_left hl, ← List.getD_eq_getElem?_getD]
  refine UInt8.toNat_inj.1 ?_
  exact bt_extract h

theorem chain_again {s : ByteArray} {k : Nat} {r : List Tok} (h : Chain s k r) : ∀ (pre : List UInt8), k ≤ s.size → ∃ r', Chain (bs (pre ++ joinT s r)) pre.length r' ∧ r'.map zeroAt = r.map zeroAt := by
  induction h with
  | fin k he =>
    intro pre hk
    refine ⟨[endTok (bs (pre ++ joinT s [endTok s]))], .fin _ ?_, by simp [zeroAt, endTok]⟩
    have hj : joinT s [endTok s] = [32] := by
      have : (s.extract s.size s.size).data.toList = [] := by
        refine List.length_eq_zero_iff.1 ?_
        have : (s.extract s.size s.size).size = s.size - s.size := extract_size (Nat.le_refl _) (Nat.le_refl _)
        simp only [Array.length_toList]
        show (s.extract s.size s.size).size = 0
        omega
      simp [joinT, endTok, this]
    rw [hj]
    have h1 : runP spaceB (bs (pre ++ [32])) pre.length = runP spaceB (bs (pre ++ [32])) (pre.length + 1) := runP_go (by simp) (by
      have := bt_pre pre [32] 0
      rw [Nat.add_zero] at this
      rw [this]
      decide)
    rw [h1, runP_stop (fun h => by simp at h)]
    simp
  | tok k x en r hlt hst hc ih =>
    intro pre hk
    have hge := runP_ge spaceB s _ k (Nat.le_refl _)
    obtain ⟨h1, h2⟩ := stepR_ok hlt hst
    obtain ⟨h3, h4, _⟩ := stepR_tok hst
    generalize hk1 : runP spaceB s k = k1 at *
    have hsp : spaceB (bt s k1) = false := by
      cases hs : spaceB (bt s k1)
      · rfl
      · exfalso
        have : runP spaceB s k1 = k1 := by
          rw [← hk1]
          exact runP_runP k
        rw [runP_go hlt hs] at this
        have := runP_ge spaceB s _ (k1 + 1) (Nat.le_refl _)
        omega
    have e1 : x.at_.toNat = k1 := by omega
    have e2 : (x.at_ + x.size).toNat = en := by omega
    have hj : joinT s (x :: r) = (s.extract k1 en).data.toList ++ 32 :: joinT s r := by rw [joinT, e1, e2]
    have hlen : (s.extract k1 en).data.toList.length = en - k1 := by
      have : (s.extract k1 en).size = en - k1 := extract_size (by omega) h2
      simp only [Array.length_toList]
      exact this
    obtain ⟨r', hr1, hr2⟩ := ih (pre ++ ((s.extract k1 en).data.toList ++ [32])) h2
    have epre : pre ++ ((s.extract k1 en).data.toList ++ [32]) ++ joinT s r = pre ++ joinT s (x :: r) := by rw [hj]; simp
    rw [epre] at hr1
    have hl2 : (pre ++ ((s.extract k1 en).data.toList ++ [32])).length = pre.length + (en - k1) + 1 := by
      rw [List.length_append, List.length_append, hlen]; simp; omega
    rw [hl2] at hr1
    have hsame : Same8 s (bs (pre ++ joinT s (x :: r))) k1 pre.length (en - k1) := by
      refine ⟨?_, fun i hi => ?_, ?_⟩
      · rw [bs_size, hj, List.length_append, List.length_append, hlen, List.length_cons]; omega
      · rw [hj, bt_pre, getD_text hi _ h2]; rfl
      · rw [hj, bt_pre, List.getD_eq_getElem?_getD, List.getElem?_append_right (by omega), hlen]; simp
    have hstep := stepR_same hlt hst hsame
    have hrun : runP spaceB (bs (pre ++ joinT s (x :: r))) pre.length = pre.length := runP_stop (fun _ => by
      have := hsame.byte 0 (by omega)
      simp only [Nat.add_zero] at this
      rw [this]
      exact hsp)
    refine ⟨{ x with at_ := pre.length } :: r', .tok _ _ _ _ ?_ (by rw [hrun]; exact hstep) (chain_space hsame.fit (by rw [hsame.blank]; decide) hr1), ?_⟩
    · rw [hrun]
      have := hsame.fit
      omega
    · rw [List.map_cons, List.map_cons, hr2]
      rfl
end Go.Proofs.Ytogepfcmmmokdaa
