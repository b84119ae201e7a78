/-
  The walk of the program's Reserved, over strings.Contains by its contract.
-/
import Derived.Test.YthcfnaglgoaikaaGreatWords
import Derived.Test.YthcfnaglgoaikaaGreatPlain2
import Derived.Test.YthcfnaglgoaikaaGreatShelf
namespace Go.Proofs.YthcfnaglgoaikaaGreat
open Go.RowKit

/-- The library's variable MaxLen holds some integer. -/
def HasMax (w : World) : Prop := ∃ m, w.cell? ⟨0, 0, none⟩ = some (.int .i64 m)
theorem HasMax.below {w w' : World} {B : Nat} (h : HasMax w) (hb : Below B w w') (hB : w.heap.size ≤ B) : HasMax w' := by
  obtain ⟨m, hm⟩ := h
  exact ⟨m, Go.Proofs.YthcfnaglgoaikaaGreat.cell_later hb hB hm⟩

theorem containsC (s sub : ByteArray) (w : World) (h : HasMax w) (hs : s.size < 1000000) : Calls Tryz.prog 79 #[.string s, .string sub] w fun e w' => e = .returned (.bool (Lib.contains s.toList sub.toList)) ∧ w = w' := by
  obtain ⟨m, hm⟩ := h
  refine (Tryz.strings_Contains s sub m w (by omega) hm).mono ?_
  rintro e w' ⟨rfl, rfl⟩
  exact ⟨by rw [ByteArray.toList_eq, ByteArray.toList_eq], rfl⟩

set_option maxRecDepth 100000 in
set_option maxHeartbeats 1000000 in
theorem reservedP (s : ByteArray) (w : World) (hM : HasMax w) (hbig : s.size < 1000000) : Calls Tryz.prog 53 #[.string s] w (RetBool (Plain.reserved s) w) := by
  cases h0 : s.toList.isEmpty
  · have hne : s.toList ≠ [] := by simpa using h0
    have HNE := Lib.hid hne; clear hne
    by_cases h1 : (32 : UInt8) ∈ s.toList
    · have HR := Lib.hid (Plain.reserved_space h1)
      have HC : Hid (Lib.contains s.toList (ByteArray.mk #[32]).toList = true) := Lib.hid (by rw [show (ByteArray.mk #[32]).toList = [32] from ByteArray.toList_mk [32], Plain.contains_space]; simpa using h1)
      clear h1
      go_enter Tryz.func53, Tryz.ntmps53
      go_wp2_with fail
      refine (containsC s _ _ hM hbig).mono ?_
      rintro e w1 ⟨rfl, rfl⟩
      rw [HC.out]
      go_wp2_with fail
      go_ret
      exact ⟨ret_bool HR.out.symm, Below.refl _ _⟩
    · have HR := Lib.hid (Plain.reserved_text HNE.out h1)
      have HC : Hid (Lib.contains s.toList (ByteArray.mk #[32]).toList = false) := Lib.hid (by rw [show (ByteArray.mk #[32]).toList = [32] from ByteArray.toList_mk [32], Plain.contains_space]; simpa using h1)
      have hu := Plain.upper_size s
      have hus : (Plain.upper s).size < 1000000 := by omega
      clear h1 hu
      go_enter Tryz.func53, Tryz.ntmps53
      go_wp2_with fail
      refine (containsC s _ _ hM hbig).mono ?_
      rintro e w1 ⟨rfl, rfl⟩
      rw [HC.out]
      go_wp2_with fail
      refine (upperP s _ hbig).mono ?_
      rintro e w1 ⟨rfl, hb⟩
      have hM1 := hM.below hb (Nat.le_refl _)
      generalize Plain.upper s = u at *
      go_wp2_with fail
      refine (containsC _ _ _ hM1 (by decide)).mono ?_
      rintro e w2 ⟨rfl, rfl⟩
      rw [Plain.text_eq, show (({ data := #[32] } : ByteArray) ++ u ++ { data := #[32] }).toList = [32] ++ u.toList ++ [32] from by simp [ByteArray.toList_eq], HR.out]
      go_wp2_with fail
      go_ret
      exact ⟨rfl, hb⟩
  · have HR := Lib.hid (Plain.reserved_empty (s := s) (by simpa using h0))
    go_enter Tryz.func53, Tryz.ntmps53
    go_wp2_with fail
    go_ret
    exact ⟨ret_bool HR.out.symm, Below.refl _ _⟩

end Go.Proofs.YthcfnaglgoaikaaGreat
