/-
  The walk of the scanner's next.
-/
import Derived.Test.YtogepfcmmmokdaaText
namespace Go.Proofs.Ytogepfcmmmokdaa
open Go.RowKit

def stepR (s : ByteArray) (k : Nat) : Res :=
  if letterB (bt s k) = true then wordR s k else if digitB (bt s k) = true then numR s k else if bt s k = 39 then textR s k else signR s k

theorem Step.of_drewN {B X : Nat} {s : ByteArray} {ts : List Tok} {w w' : World} {n : Nat} {r : Res} {e : Ending} (h : Step B X s ts (w.drewN n) r e w') : Step B X s ts w r e w' := by
  have hb : Below B w (w.drewN n) := below_drewN (Below.refl B w) n
  cases r with
  | ok t en => exact ⟨h.1, h.2.1, hb.trans h.2.2⟩
  | err a c =>
    obtain ⟨F, h1, h2, h3⟩ := h
    exact ⟨F, h1, h2, hb.trans h3⟩

/-- A method's answer is a pointer, handed on as it is. -/
theorem Step.ptr {B X : Nat} {s : ByteArray} {ts : List Tok} {w w' : World} {r : Res} {e : Ending} (h : Step B X s ts w r e w') : ∃ v, e = .returned v := by
  cases r with
  | ok t en => exact ⟨_, h.1⟩
  | err a c =>
    obtain ⟨F, h1, _⟩ := h
    exact ⟨_, h1⟩

set_option maxRecDepth 100000 in
set_option maxHeartbeats 2000000 in
theorem next20 (B X : Nat) (s : ByteArray) (k : Nat) (ts : List Tok) (w : World) (h : Sc w B X s k ts) (hM : HasMax w) (hs : s.size ≤ 2000) (hk : k < s.size) (hn : ts.length ≤ 3000) :
    Calls Try.prog 20 #[.pointer (some ⟨X, 0, none⟩)] w (Step B X s ts w (stepR s k)) := by
  have c0 := h.cell0
  have c1 := h.cell1
  have hbk := bt_eq hk
  have hki : (k : Int) < (s.size : Int) := by omega
  have hk0 : (0 : Int) ≤ (k : Int) := by omega
  rcases bool_cases (letterB (bt s k)) with HL | HL
  · have HS : Hid (stepR s k = wordR s k) := Lib.hid (by rw [stepR, if_pos HL.out])
    rw [HS.out]
    go_enter Try.func20, Try.ntmps20
    go_wp2_with fail
    go_quiet (fail)
    go_wp2_with fail
    refine (letter25 _ _).mono ?_
    rintro e w1 ⟨rfl, rfl⟩
    rw [HL.out]
    go_wp2_with fail
    refine (word26 B X s k ts _ (h.drewN _) (hM.drewN _) hs (by omega) hn).mono ?_
    rintro e w1 hst
    obtain ⟨v, rfl⟩ := hst.ptr
    go_wp2_with fail
    go_ret
    exact hst.of_drewN
  · rcases bool_cases (digitB (bt s k)) with HD | HD
    · have HS : Hid (stepR s k = numR s k) := Lib.hid (by rw [stepR, if_neg (by rw [HL.out]; simp), if_pos HD.out])
      rw [HS.out]
      go_enter Try.func20, Try.ntmps20
      go_wp2_with fail
      go_quiet (fail)
      go_wp2_with fail
      refine (letter25 _ _).mono ?_
      rintro e w1 ⟨rfl, rfl⟩
      rw [HL.out]
      go_wp2_with fail
      refine (digit27 _ _).mono ?_
      rintro e w1 ⟨rfl, rfl⟩
      rw [HD.out]
      go_wp2_with fail
      refine (number28 B X s k ts _ (h.drewN _) hs (by omega) hn).mono ?_
      rintro e w1 hst
      obtain ⟨v, rfl⟩ := hst.ptr
      go_wp2_with fail
      go_ret
      exact hst.of_drewN
    · cases h1 : ((bt s k : Int) == 39)
      · have HS : Hid (stepR s k = signR s k) := Lib.hid (by rw [stepR, if_neg (by rw [HL.out]; simp), if_neg (by rw [HD.out]; simp), if_neg (by intro h; rw [h] at h1; simp at h1)])
        rw [HS.out]
        go_enter Try.func20, Try.ntmps20
        go_wp2_with fail
        go_quiet (fail)
        go_wp2_with fail
        refine (letter25 _ _).mono ?_
        rintro e w1 ⟨rfl, rfl⟩
        rw [HL.out]
        go_wp2_with fail
        refine (digit27 _ _).mono ?_
        rintro e w1 ⟨rfl, rfl⟩
        rw [HD.out]
        go_wp2_with fail
        refine (sign30 B X s k ts _ (h.drewN _) (hM.drewN _) hs (by omega) hn).mono ?_
        rintro e w1 hst
        obtain ⟨v, rfl⟩ := hst.ptr
        go_wp2_with fail
        go_ret
        exact hst.of_drewN
      · have HS : Hid (stepR s k = textR s k) := Lib.hid (by rw [stepR, if_neg (by rw [HL.out]; simp), if_neg (by rw [HD.out]; simp), if_pos (by have := beq_iff_eq.1 h1; omega)])
        rw [HS.out]
        go_enter Try.func20, Try.ntmps20
        go_wp2_with fail
        go_quiet (fail)
        go_wp2_with fail
        refine (letter25 _ _).mono ?_
        rintro e w1 ⟨rfl, rfl⟩
        rw [HL.out]
        go_wp2_with fail
        refine (digit27 _ _).mono ?_
        rintro e w1 ⟨rfl, rfl⟩
        rw [HD.out]
        go_wp2_with fail
        refine (text29 B X s k ts _ (h.drewN _) hs (by omega) hn).mono ?_
        rintro e w1 hst
        obtain ⟨v, rfl⟩ := hst.ptr
        go_wp2_with fail
        go_ret
        exact hst.of_drewN

end Go.Proofs.Ytogepfcmmmokdaa
