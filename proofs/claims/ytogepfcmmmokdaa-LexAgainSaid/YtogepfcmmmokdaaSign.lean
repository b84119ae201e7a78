/-
  The walk of the scanner's sign.
-/
import Derived.Test.YtogepfcmmmokdaaWord
namespace Go.Proofs.Ytogepfcmmmokdaa
open Go.RowKit

def isTwo (x : List UInt8) : Bool := x == [60, 62] || x == [60, 61] || x == [62, 61] || x == [46, 46]
def signs : List UInt8 := [40, 41, 91, 93, 123, 125, 44, 58, 46, 124, 42, 43, 45, 47, 37, 61, 60, 62]

def signR (s : ByteArray) (k : Nat) : Res :=
  if k + 1 < s.size ∧ isTwo (s.extract k (k + 2)).toList = true then .ok ⟨5, k, 2, 0, s.extract k (k + 2)⟩ (k + 2)
  else if Lib.contains signs (s.extract k (k + 1)).toList = true then .ok ⟨5, k, 1, 0, s.extract k (k + 1)⟩ (k + 1)
  else .err k 2

theorem signs_eq : (ByteArray.mk #[40, 41, 91, 93, 123, 125, 44, 58, 46, 124, 42, 43, 45, 47, 37, 61, 60, 62]).toList = signs := ByteArray.toList_mk _

/-- The second half: one byte. -/
def oneR (s : ByteArray) (k : Nat) : Res := if Lib.contains signs (s.extract k (k + 1)).toList = true then .ok ⟨5, k, 1, 0, s.extract k (k + 1)⟩ (k + 1) else .err k 2

theorem bool_cases (b : Bool) : Hid (b = true) ∨ Hid (b = false) := by
  cases b
  · exact .inr rfl
  · exact .inl rfl

theorem two_cases (x : List UInt8) :
    ((x == [60, 62]) = true ∨ ((x == [60, 62]) = false ∧ (x == [60, 61]) = true) ∨ ((x == [60, 62]) = false ∧ (x == [60, 61]) = false ∧ (x == [62, 61]) = true) ∨ ((x == [60, 62]) = false ∧ (x == [60, 61]) = false ∧ (x == [62, 61]) = false ∧ (x == [46, 46]) = true)) ∨
    ((x == [60, 62]) = false ∧ (x == [60, 61]) = false ∧ (x == [62, 61]) = false ∧ (x == [46, 46]) = false) := by
  cases (x == [60, 62]) <;> cases (x == [60, 61]) <;> cases (x == [62, 61]) <;> cases (x == [46, 46]) <;> simp

set_option maxRecDepth 100000 in
set_option maxHeartbeats 4000000 in
theorem sign30 (B X : Nat) (s : ByteArray) (k : Nat) (ts : List Tok) (w : World) (h : Sc w B X s k ts) (hM : HasMax w) (hs : s.size ≤ 2000) (hk : k < s.size) (hn : ts.length ≤ 3000) :
    Calls Try.prog 30 #[.pointer (some ⟨X, 0, none⟩)] w (Step B X s ts w (signR s k)) := by
  have c0 := h.cell0
  have c1 := h.cell1
  have hBl := h.lt
  have hw1 : IntKind.i64.wrap ((k : Int) + 1) = (k : Int) + 1 := IntWalk.i64_in _ (by omega)
  have hw2 : IntKind.i64.wrap ((k : Int) + 2) = (k : Int) + 2 := IntWalk.i64_in _ (by omega)
  have hn1 : ((k : Int) + 1).toNat = k + 1 := by omega
  have hn2 : ((k : Int) + 2).toNat = k + 2 := by omega
  have hp1 : (0 : Int) ≤ (k : Int) + 1 := by omega
  have hp2 : (0 : Int) ≤ (k : Int) + 2 := by omega
  by_cases h2 : k + 1 < s.size
  · have hi2 : (k : Int) + 1 < (s.size : Int) := by omega
    rcases two_cases (s.extract k (k + 2)).toList with h3 | h3
    · have HS : Hid (signR s k = .ok ⟨5, k, 2, 0, s.extract k (k + 2)⟩ (k + 2)) := Lib.hid (by
        have : isTwo (s.extract k (k + 2)).toList = true := by
          rcases h3 with h3 | ⟨_, h3⟩ | ⟨_, _, h3⟩ | ⟨_, _, _, h3⟩ <;> simp [isTwo, h3]
        rw [signR, if_pos ⟨h2, this⟩])
      rw [HS.out]
      rcases h3 with h3 | ⟨h4, h3⟩ | ⟨h5, h4, h3⟩ | ⟨h6, h5, h4, h3⟩
      all_goals
        go_enter Try.func30, Try.ntmps30
        go_wp2_with fail
        go_quiet (fail)
        go_wp2_with fail
        go_quiet (fail)
        go_wp2_with fail
        refine (emit19 B X s (s.extract k (k + 2)) k 5 (k + 2) 0 ts _ (h.drewN _) (by omega) (by omega) (by omega)).mono ?_
        rintro e w3 ⟨rfl, hS3, hb3⟩
        go_wp2_with fail
        go_ret
        exact ⟨rfl, by simpa [show (k : Int) + 2 - k = 2 by omega] using hS3, (below_drewN (Below.refl B w) _).trans hb3⟩
    · have HE : Hid (signR s k = oneR s k) := Lib.hid (by
        have : ¬ (k + 1 < s.size ∧ isTwo (s.extract k (k + 2)).toList = true) := by
          intro h; simp [isTwo, h3.1, h3.2.1, h3.2.2.1, h3.2.2.2] at h
        rw [signR, if_neg this]; rfl)
      obtain ⟨h3, h4, h5, h6⟩ := h3
      rcases bool_cases (Lib.contains signs (s.extract k (k + 1)).toList) with HC | HC
      · have HS : Hid (oneR s k = .ok ⟨5, k, 1, 0, s.extract k (k + 1)⟩ (k + 1)) := Lib.hid (by rw [oneR, if_pos HC.out])
        rw [HE.out, HS.out]
        go_enter Try.func30, Try.ntmps30
        go_wp2_with fail
        go_quiet (fail)
        go_wp2_with fail
        go_quiet (fail)
        go_wp2_with fail
        go_quiet (fail)
        go_wp2_with fail
        refine (contains22 _ (s.extract k (k + 1)) _ (hM.drewN _) (by decide)).mono ?_
        rintro e w1 ⟨rfl, rfl⟩
        rw [signs_eq, HC.out]
        go_wp2_with fail
        refine (emit19 B X s (s.extract k (k + 1)) k 5 (k + 1) 0 ts _ (h.drewN _) (by omega) (by omega) (by omega)).mono ?_
        rintro e w3 ⟨rfl, hS3, hb3⟩
        go_wp2_with fail
        go_ret
        exact ⟨rfl, by simpa [show (k : Int) + 1 - k = 1 by omega] using hS3, (below_drewN (Below.refl B w) _).trans hb3⟩
      · have HS : Hid (oneR s k = .err k 2) := Lib.hid (by rw [oneR, if_neg (by rw [HC.out]; simp)])
        rw [HE.out, HS.out]
        go_enter Try.func30, Try.ntmps30
        go_wp2_with fail
        go_quiet (fail)
        go_wp2_with fail
        go_quiet (fail)
        go_wp2_with fail
        go_quiet (fail)
        go_wp2_with fail
        refine (contains22 _ (s.extract k (k + 1)) _ (hM.drewN _) (by decide)).mono ?_
        rintro e w1 ⟨rfl, rfl⟩
        rw [signs_eq, HC.out]
        go_wp2_with fail
        go_ret
        exact ⟨_, rfl, heap_alloc_new _ _, (below_drewN (Below.refl B w) _).alloc ((h.drewN _)).lt _⟩
  · have hi2 : ¬ (k : Int) + 1 < (s.size : Int) := by omega
    have HE : Hid (signR s k = oneR s k) := Lib.hid (by rw [signR, if_neg (fun h => h2 h.1)]; rfl)
    rcases bool_cases (Lib.contains signs (s.extract k (k + 1)).toList) with HC | HC
    · have HS : Hid (oneR s k = .ok ⟨5, k, 1, 0, s.extract k (k + 1)⟩ (k + 1)) := Lib.hid (by rw [oneR, if_pos HC.out])
      rw [HE.out, HS.out]
      go_enter Try.func30, Try.ntmps30
      go_wp2_with fail
      go_quiet (fail)
      go_wp2_with fail
      go_quiet (fail)
      go_wp2_with fail
      refine (contains22 _ (s.extract k (k + 1)) _ (hM.drewN _) (by decide)).mono ?_
      rintro e w1 ⟨rfl, rfl⟩
      rw [signs_eq, HC.out]
      go_wp2_with fail
      refine (emit19 B X s (s.extract k (k + 1)) k 5 (k + 1) 0 ts _ (h.drewN _) (by omega) (by omega) (by omega)).mono ?_
      rintro e w3 ⟨rfl, hS3, hb3⟩
      go_wp2_with fail
      go_ret
      exact ⟨rfl, by simpa [show (k : Int) + 1 - k = 1 by omega] using hS3, (below_drewN (Below.refl B w) _).trans hb3⟩
    · have HS : Hid (oneR s k = .err k 2) := Lib.hid (by rw [oneR, if_neg (by rw [HC.out]; simp)])
      rw [HE.out, HS.out]
      go_enter Try.func30, Try.ntmps30
      go_wp2_with fail
      go_quiet (fail)
      go_wp2_with fail
      go_quiet (fail)
      go_wp2_with fail
      refine (contains22 _ (s.extract k (k + 1)) _ (hM.drewN _) (by decide)).mono ?_
      rintro e w1 ⟨rfl, rfl⟩
      rw [signs_eq, HC.out]
      go_wp2_with fail
      go_ret
      exact ⟨_, rfl, heap_alloc_new _ _, (below_drewN (Below.refl B w) _).alloc ((h.drewN _)).lt _⟩

end Go.Proofs.Ytogepfcmmmokdaa
