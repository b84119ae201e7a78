/-
  The walk of the scanner's word.
-/
import Derived.Test.YtogepfcmmmokdaaRun
namespace Go.Proofs.Ytogepfcmmmokdaa
open Go.RowKit

theorem runP_ge (p : Int → Bool) (s : ByteArray) : ∀ (n k : Nat), s.size - k ≤ n → k ≤ runP p s k
  | 0, k, h => by rw [runP_stop fun h' => absurd h' (by omega)]; exact Nat.le_refl _
  | n + 1, k, h => by
    rw [runP]
    split
    · have := runP_ge p s n (k + 1) (by omega)
      omega
    · exact Nat.le_refl _
theorem runP_le (p : Int → Bool) (s : ByteArray) : ∀ (n k : Nat), s.size - k ≤ n → k ≤ s.size → runP p s k ≤ s.size
  | 0, k, h, hk => by rw [runP_stop fun h' => absurd h' (by omega)]; exact hk
  | n + 1, k, h, hk => by
    rw [runP]
    split
    · rename_i h1
      exact runP_le p s n (k + 1) (by omega) h1.1
    · exact hk

inductive Res where
  | ok (t : Tok) (en : Nat)
  | err (at_ code : Int)

/-- What a method of the scanner leaves: the token is appended and the place moved on, or a fault. -/
def Step (B X : Nat) (s : ByteArray) (ts : List Tok) (w : World) : Res → Ending → World → Prop
  | .ok t en, e, w' => e = .returned (.pointer none) ∧ Sc w' B X s en (ts ++ [t]) ∧ Below B w w'
  | .err a c, e, w' => ∃ F, e = .returned (.pointer (some ⟨F, 0, none⟩)) ∧ w'.heap[F]? = some (.cells #[.int .i64 a, .int .i64 c] 40 (0, 0)) ∧ Below B w w'

theorem Sc.below {w w' : World} {B X C : Nat} {s : ByteArray} {k : Int} {ts : List Tok} (h : Sc w B X s k ts) (hb : Below C w w') (hC : w.heap.size ≤ C) : Sc w' B X s k ts := by
  obtain ⟨⟨A, n, c, hh, ho, hx⟩, hB⟩ := h
  refine ⟨⟨A, n, c, (hb.block X (Nat.lt_of_lt_of_le (heap_lt hh) hC)).trans hh, ?_, hx⟩, hB⟩
  obtain ⟨h1, h2⟩ := ho
  refine ⟨h1, ?_⟩
  rcases h2 with h2 | ⟨g, cap, cur, hv, hg, hh', r⟩
  · exact .inl h2
  · exact .inr ⟨g, cap, cur, hv, hg, (hb.block g (Nat.lt_of_lt_of_le (heap_lt hh') hC)).trans hh', r⟩

theorem Sc.cell0 {w : World} {B X : Nat} {s : ByteArray} {k : Int} {ts : List Tok} (h : Sc w B X s k ts) : w.cell? ⟨X, 0, none⟩ = some (.string s) := by
  obtain ⟨⟨A, n, c, hh, _⟩, _⟩ := h
  exact (row_cell hh 0).trans rfl
theorem Sc.cell1 {w : World} {B X : Nat} {s : ByteArray} {k : Int} {ts : List Tok} (h : Sc w B X s k ts) : w.cell? ⟨X, 1, none⟩ = some (.int .i64 k) := by
  obtain ⟨⟨A, n, c, hh, _⟩, _⟩ := h
  exact (row_cell hh 1).trans rfl
theorem Sc.lt {w : World} {B X : Nat} {s : ByteArray} {k : Int} {ts : List Tok} (h : Sc w B X s k ts) : B ≤ w.heap.size := by
  obtain ⟨⟨A, n, c, hh, _⟩, hB⟩ := h
  have := heap_lt hh
  omega
theorem Sc.drewN {w : World} {B X : Nat} {s : ByteArray} {k : Int} {ts : List Tok} (h : Sc w B X s k ts) (n : Nat) : Sc (w.drewN n) B X s k ts := h.below (below_drewN (Below.refl _ w) n) (Nat.le_refl _)
theorem HasMax.drewN {w : World} (h : HasMax w) (n : Nat) : HasMax (w.drewN n) := h

def wordR (s : ByteArray) (k : Nat) : Res :=
  let en := runP wordB s k
  let x := s.extract k en
  if Plain.reserved x = true then .ok ⟨1, k, en - k, 0, Plain.upper x⟩ en
  else if 20 < x.size then .err k 4
  else .ok ⟨2, k, en - k, 0, x⟩ en

theorem extract_size {s : ByteArray} {a b : Nat} (h1 : a ≤ b) (h2 : b ≤ s.size) : (s.extract a b).size = b - a := by
  rw [ByteArray.size_extract]; omega

set_option maxRecDepth 100000 in
set_option maxHeartbeats 2000000 in
theorem word26 (B X : Nat) (s : ByteArray) (k : Nat) (ts : List Tok) (w : World) (h : Sc w B X s k ts) (hM : HasMax w) (hs : s.size ≤ 2000) (hk : k ≤ s.size) (hn : ts.length ≤ 3000) :
    Calls Try.prog 26 #[.pointer (some ⟨X, 0, none⟩)] w (Step B X s ts w (wordR s k)) := by
  have c0 := h.cell0
  have c1 := h.cell1
  have hge := runP_ge wordB s _ k (Nat.le_refl _)
  have hle := runP_le wordB s _ k (Nat.le_refl _) hk
  have hsize := extract_size hge hle
  have hres : ∀ r, wordR s k = r → wordR s k = r := fun _ h => h
  have HW : Hid (wordR s k = if Plain.reserved (s.extract k (runP wordB s k)) = true then .ok ⟨1, k, (runP wordB s k : Int) - k, 0, Plain.upper (s.extract k (runP wordB s k))⟩ (runP wordB s k)
      else if 20 < (s.extract k (runP wordB s k)).size then .err k 4 else .ok ⟨2, k, (runP wordB s k : Int) - k, 0, s.extract k (runP wordB s k)⟩ (runP wordB s k)) := Lib.hid rfl
  clear hres
  generalize hen : runP wordB s k = en at *
  have HEN := Lib.hid hen; clear hen
  have hxs : (s.extract k en).size ≤ 2000 := by omega
  have HSZ := Lib.hid hsize; clear hsize
  have hcase : Hid (Plain.reserved (s.extract k en) = true) ∨ Hid (Plain.reserved (s.extract k en) = false) := by
    cases h : Plain.reserved (s.extract k en)
    · exact .inr rfl
    · exact .inl rfl
  have hBl := h.lt
  rcases hcase with HR | HR
  · rw [HR.out, if_pos rfl] at HW
    rw [HW.out]
    go_enter Try.func26, Try.ntmps26
    go_wp2_with fail
    refine (run17_38 X k s _ c0 (by omega) hk).mono ?_
    rintro e w1 ⟨rfl, rfl⟩
    rw [HEN.out]
    go_wp2_with fail
    go_quiet (fail)
    go_wp2_with fail
    refine (reserved12 (s.extract k en) _ (hM.drewN _) (by omega)).mono ?_
    rintro e w1 ⟨rfl, hb1⟩
    rw [HR.out]
    have hS1 := (h.drewN nq).below hb1 (Nat.le_refl _)
    have hb1' := (below_drewN (Below.refl B w) nq).trans (hb1.mono hBl)
    clear hb1
    go_wp2_with fail
    refine (upper23 (s.extract k en) _ (by omega)).mono ?_
    rintro e w2 ⟨rfl, hb2⟩
    have hS2 := hS1.below hb2 (Nat.le_refl _)
    have hb2' := hb1'.trans (hb2.mono hS1.lt)
    clear hb2
    go_wp2_with fail
    refine (emit19 B X s (Plain.upper (s.extract k en)) k 1 en 0 ts _ hS2 (by omega) (by omega) (by omega)).mono ?_
    rintro e w3 ⟨rfl, hS3, hb3⟩
    go_wp2_with fail
    go_ret
    exact ⟨rfl, hS3, hb2'.trans hb3⟩
  · rw [HR.out, if_neg (by simp), HSZ.out] at HW
    by_cases h20 : 20 < en - k
    · rw [if_pos h20] at HW
      rw [HW.out]
      go_enter Try.func26, Try.ntmps26
      go_wp2_with fail
      refine (run17_38 X k s _ c0 (by omega) hk).mono ?_
      rintro e w1 ⟨rfl, rfl⟩
      rw [HEN.out]
      go_wp2_with fail
      go_quiet (fail)
      go_wp2_with fail
      refine (reserved12 (s.extract k en) _ (hM.drewN _) (by omega)).mono ?_
      rintro e w1 ⟨rfl, hb1⟩
      rw [HR.out]
      have hS1 := (h.drewN nq).below hb1 (Nat.le_refl _)
      have hb1' := (below_drewN (Below.refl B w) nq).trans (hb1.mono hBl)
      have d1 := hS1.cell1
      clear hb1
      go_wp2_with fail
      go_ret
      exact ⟨_, rfl, heap_alloc_new _ _, hb1'.alloc hS1.lt _⟩
    · rw [if_neg h20] at HW
      rw [HW.out]
      go_enter Try.func26, Try.ntmps26
      go_wp2_with fail
      refine (run17_38 X k s _ c0 (by omega) hk).mono ?_
      rintro e w1 ⟨rfl, rfl⟩
      rw [HEN.out]
      go_wp2_with fail
      go_quiet (fail)
      go_wp2_with fail
      refine (reserved12 (s.extract k en) _ (hM.drewN _) (by omega)).mono ?_
      rintro e w1 ⟨rfl, hb1⟩
      rw [HR.out]
      have hS1 := (h.drewN nq).below hb1 (Nat.le_refl _)
      have hb1' := (below_drewN (Below.refl B w) nq).trans (hb1.mono hBl)
      clear hb1
      go_wp2_with fail
      refine (emit19 B X s (s.extract k en) k 2 en 0 ts _ hS1 (by omega) (by omega) (by omega)).mono ?_
      rintro e w3 ⟨rfl, hS3, hb3⟩
      go_wp2_with fail
      go_ret
      exact ⟨rfl, hS3, hb1'.trans hb3⟩

end Go.Proofs.Ytogepfcmmmokdaa
