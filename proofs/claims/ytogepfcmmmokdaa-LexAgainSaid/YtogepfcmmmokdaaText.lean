/-
  The walk of the scanner's text (a quoted string).
-/
import Derived.Test.YtogepfcmmmokdaaBuilder
namespace Go.Proofs.Ytogepfcmmmokdaa
open Go.RowKit

def byteAt (s : ByteArray) (j : Nat) : UInt8 := s.data.toList.getD j 0

def textGo (s : ByteArray) (k : Nat) (j : Nat) (acc : List UInt8) : Res :=
  if j < s.size then
    if bt s j = 39 ∧ j + 1 < s.size ∧ bt s (j + 1) = 39 then textGo s k (j + 2) (acc ++ [39])
    else if bt s j = 39 then (if 100 < acc.length then .err k 4 else .ok ⟨4, k, (j : Int) + 1 - k, 0, ⟨acc.toArray⟩⟩ (j + 1))
    else if bt s j < 32 ∨ 126 < bt s j then .err j 2
    else textGo s k (j + 1) (acc ++ [byteAt s j])
  else .err s.size 3
termination_by s.size - j

def textR (s : ByteArray) (k : Nat) : Res := textGo s k (k + 1) []

theorem cells_snoc (acc : List UInt8) (x : UInt8) {z : Int} (h : z = (x.toNat : Int)) : Lib.byteCells acc ++ [Value.int .u8 z] = Lib.byteCells (acc ++ [x]) := by
  subst h
  simp [Lib.byteCells]

theorem cells_length (acc : List UInt8) : (Lib.byteCells acc).length = acc.length := by simp [Lib.byteCells]

set_option maxRecDepth 100000 in
set_option maxHeartbeats 4000000 in
theorem text29 (B X : Nat) (s : ByteArray) (k : Nat) (ts : List Tok) (w : World) (h : Sc w B X s k ts) (hs : s.size ≤ 2000) (hk : k < s.size) (hn : ts.length ≤ 3000) :
    Calls Try.prog 29 #[.pointer (some ⟨X, 0, none⟩)] w (Step B X s ts w (textR s k)) := by
  have c0 := h.cell0
  have c1 := h.cell1
  have hBl := h.lt
  have hfresh := Lib.fresh_isBuilder 52 5 w
  have c1a : ∀ o : Obj, (w.alloc o).cell? ⟨X, 1, none⟩ = some (.int .i64 k) := fun o => Go.Proofs.Ytogepfcmmmokdaa.cell_later ((Below.refl _ w).alloc (Nat.le_refl _) o) (Nat.le_refl _) c1
  go_enter Try.func29, Try.ntmps29
  go_wp2_with fail
  go_loopw [4, 5, 28, 55, 71] (fun i _ _ _ _ wr => ∃ (j : Nat) (acc : List UInt8), i = .int .i64 j ∧ j ≤ s.size ∧ Lib.IsBuilder 52 5 w.heap.size w.heap.size (Lib.byteCells acc) wr ∧ Below w.heap.size w wr ∧ acc.length ≤ j ∧ textGo s k j acc = textR s k)
    (fun i _ _ _ _ _ => s.size - (intOf i).toNat)
  case atStart => exact ⟨k + 1, [], by go_num, by omega, hfresh, (Below.refl _ w).alloc (Nat.le_refl _) _, by simp, rfl⟩
  case round =>
    obtain ⟨j, acc, rfl, hj, hbu, hb, hacc, hr⟩ := hrel
    have HR := Lib.hid hr; clear hr
    have hSc := h.below hb (Nat.le_refl _)
    have d0 := hSc.cell0
    have d1 := hSc.cell1
    have hbs := hb.size
    have hG := textGo.eq_1 s k j acc
    have HG := Lib.hid hG; clear hG
    by_cases hlt : j < s.size
    · have hlti : (j : Int) < (s.size : Int) := by omega
      have hbj := bt_eq hlt
      have h256 := bt_lt s j
      cases h1 : ((bt s j : Int) == 39)
      · have h1n : bt s j ≠ 39 := by intro h; rw [h] at h1; simp at h1
        by_cases h2 : bt s j < 32 ∨ 126 < bt s j
        · have HS : Hid (textR s k = .err j 2) := Lib.hid (by rw [← HR.out, HG.out, if_pos hlt, if_neg (fun h => h1n h.1), if_neg h1n, if_pos h2])
          rcases h2 with h2 | h2
          all_goals
            go_wp2_with fail
            go_ret
            rw [HS.out]
            exact ⟨_, rfl, heap_alloc_new _ _, (hb.mono hBl).alloc hSc.lt _⟩
        · have HS : Hid (textGo s k (j + 1) (acc ++ [byteAt s j]) = textR s k) := Lib.hid (by rw [← HR.out, HG.out, if_pos hlt, if_neg (fun h => h1n h.1), if_neg h1n, if_neg h2])
          have h3 : ¬ (bt s j : Int) < 32 := by omega
          have h4 : ¬ (126 : Int) < (bt s j : Int) := by omega
          clear h2
          go_wp2_with fail
          refine (writeByte39 w.heap.size w.heap.size _ _ _ hbu (by rw [cells_length]; omega) hbs).mono ?_
          rintro e w2 ⟨rfl, hbu2, hb2⟩
          rw [cells_snoc acc (byteAt s j) (z := (bt s j : Int)) rfl] at hbu2
          have hb2' := hb.trans hb2
          go_wp2_with fail
          go_roundw
          case rel => exact ⟨j + 1, _, by go_num, by omega, .inr hbu2, hb2', by simp; omega, HS.out⟩
          case measure => simp [intOf]; omega
      · have h1n : Hid (bt s j = 39) := Lib.hid (by have := beq_iff_eq.1 h1; omega)
        by_cases h2 : j + 1 < s.size
        · have h2i : (j : Int) + 1 < (s.size : Int) := by omega
          have hbj1 := bt_eq h2
          cases h3 : ((bt s (j + 1) : Int) == 39)
          · have HQ : Hid (¬ (bt s j = 39 ∧ j + 1 < s.size ∧ bt s (j + 1) = 39)) := Lib.hid (by rintro ⟨_, _, h⟩; rw [h] at h3; simp at h3)
            by_cases h5 : 100 < acc.length
            · have HS : Hid (textR s k = .err k 4) := Lib.hid (by rw [← HR.out, HG.out, if_pos hlt, if_neg HQ.out, if_pos h1n.out, if_pos h5])
              go_wp2_with fail
              refine (Try.Builder_Len w.heap.size w.heap.size _ _ hbu).mono ?_
              rintro e w2 ⟨rfl, rfl⟩
              rw [cells_length]
              go_wp2_with fail
              go_ret
              rw [HS.out]
              exact ⟨_, rfl, heap_alloc_new _ _, (hb.mono hBl).alloc hSc.lt _⟩
            · have HS : Hid (textR s k = .ok ⟨4, k, (j : Int) + 1 - k, 0, ⟨acc.toArray⟩⟩ (j + 1)) := Lib.hid (by rw [← HR.out, HG.out, if_pos hlt, if_neg HQ.out, if_pos h1n.out, if_neg h5])
              go_wp2_with fail
              refine (Try.Builder_Len w.heap.size w.heap.size _ _ hbu).mono ?_
              rintro e w2 ⟨rfl, rfl⟩
              rw [cells_length]
              go_wp2_with fail
              refine (Try.Builder_String_any w.heap.size w.heap.size acc _ hbu hbs).mono ?_
              rintro e w3 ⟨rfl, hb3⟩
              have hb3' := hb.trans hb3
              have hS3 := h.below hb3' (Nat.le_refl _)
              go_wp2_with fail
              refine (emit19 B X s ⟨acc.toArray⟩ k 4 (j + 1) 0 ts _ hS3 (by omega) (by omega) (by omega)).mono ?_
              rintro e w4 ⟨rfl, hS4, hb4⟩
              go_wp2_with fail
              go_ret
              rw [HS.out]
              exact ⟨rfl, hS4, (hb3'.mono hBl).trans hb4⟩
          · have HS : Hid (textGo s k (j + 2) (acc ++ [39]) = textR s k) := Lib.hid (by rw [← HR.out, HG.out, if_pos hlt, if_pos ⟨h1n.out, h2, by have := beq_iff_eq.1 h3; omega⟩])
            go_wp2_with fail
            refine (writeByte39 w.heap.size w.heap.size _ _ _ hbu (by rw [cells_length]; omega) hbs).mono ?_
            rintro e w2 ⟨rfl, hbu2, hb2⟩
            rw [cells_snoc acc 39 (z := (bt s j : Int)) (by rw [h1n.out]; rfl)] at hbu2
            have hb2' := hb.trans hb2
            go_wp2_with fail
            go_roundw
            case rel => exact ⟨j + 2, _, by go_num, by omega, .inr hbu2, hb2', by simp; omega, HS.out⟩
            case measure => simp [intOf]; omega
        · have h2i : ¬ (j : Int) + 1 < (s.size : Int) := by omega
          have HQ : Hid (¬ (bt s j = 39 ∧ j + 1 < s.size ∧ bt s (j + 1) = 39)) := Lib.hid (fun h => h2 h.2.1)
          by_cases h5 : 100 < acc.length
          · have HS : Hid (textR s k = .err k 4) := Lib.hid (by rw [← HR.out, HG.out, if_pos hlt, if_neg HQ.out, if_pos h1n.out, if_pos h5])
            go_wp2_with fail
            refine (Try.Builder_Len w.heap.size w.heap.size _ _ hbu).mono ?_
            rintro e w2 ⟨rfl, rfl⟩
            rw [cells_length]
            go_wp2_with fail
            go_ret
            rw [HS.out]
            exact ⟨_, rfl, heap_alloc_new _ _, (hb.mono hBl).alloc hSc.lt _⟩
          · have HS : Hid (textR s k = .ok ⟨4, k, (j : Int) + 1 - k, 0, ⟨acc.toArray⟩⟩ (j + 1)) := Lib.hid (by rw [← HR.out, HG.out, if_pos hlt, if_neg HQ.out, if_pos h1n.out, if_neg h5])
            go_wp2_with fail
            refine (Try.Builder_Len w.heap.size w.heap.size _ _ hbu).mono ?_
            rintro e w2 ⟨rfl, rfl⟩
            rw [cells_length]
            go_wp2_with fail
            refine (Try.Builder_String_any w.heap.size w.heap.size acc _ hbu hbs).mono ?_
            rintro e w3 ⟨rfl, hb3⟩
            have hb3' := hb.trans hb3
            have hS3 := h.below hb3' (Nat.le_refl _)
            go_wp2_with fail
            refine (emit19 B X s ⟨acc.toArray⟩ k 4 (j + 1) 0 ts _ hS3 (by omega) (by omega) (by omega)).mono ?_
            rintro e w4 ⟨rfl, hS4, hb4⟩
            go_wp2_with fail
            go_ret
            rw [HS.out]
            exact ⟨rfl, hS4, (hb3'.mono hBl).trans hb4⟩
    · have hlti : ¬ (j : Int) < (s.size : Int) := by omega
      have HS : Hid (textR s k = .err s.size 3) := Lib.hid (by rw [← HR.out, HG.out, if_neg hlt])
      go_wp2_with fail
      go_ret
      rw [HS.out]
      exact ⟨_, rfl, heap_alloc_new _ _, (hb.mono hBl).alloc hSc.lt _⟩

end Go.Proofs.Ytogepfcmmmokdaa
