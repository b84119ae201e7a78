/-
  The walks of the reference's Of, Union, Meet and Minus.
-/
import Derived.Test.YtfiilodghimajaaReads
import Derived.Test.YtfiilodghimajaaWith
namespace Go.Proofs.Ytfiilodghimajaa
open Go.RowKit

set_option maxHeartbeats 400000 in
theorem of21 (v : Value) (zs : List Int) (w : World) (h : IntsAt w v zs) (hbig : zs.length < 100000000) :
    Calls Try.prog 21 #[v] w (RetOwn 3 w (Plain.of zs)) := by
  obtain ⟨A, n, c, rfl, hl, hc, hm, hr⟩ := h
  have HL := Lib.hid hl; clear hl
  have HR := Lib.hid hr; clear hr
  have hm : n < 100000000 := by rw [← HL.out]; exact hbig
  clear hc hbig
  go_enter Try.func21, Try.ntmps21
  go_wp2
  go_loopw [3, 4] (fun o s wr => ∃ (k : Nat) (ys : List Int), s = .int .i64 k ∧ k ≤ n ∧ Own wr w.heap.size 3 o ys ∧ Below w.heap.size w wr ∧ ys.length ≤ k ∧ Plain.into ys (zs.drop k) = Plain.of zs)
    (fun _ s _ => n - (intOf s).toNat)
  case atStart => exact ⟨0, [], rfl, Nat.zero_le _, Own.nil _ _ _, Below.refl _ _, by simp, rfl⟩
  case round =>
    obtain ⟨k, ys, rfl, hk, hown, hb, hy, hs⟩ := hrel
    have HS := Lib.hid hs; clear hs
    by_cases hlt : k < n
    · obtain ⟨bk, off, rfl, hx⟩ := HR.out (by omega)
      have hxk := Go.Proofs.Ytfiilodghimajaa.cell_later hb (Nat.le_refl _) (hx k hlt)
      clear hx
      have hz : k < zs.length := by rw [HL.out]; exact hlt
      have HE := Lib.hid (el_lt hz)
      have hbs := hb.size
      go_wp2_with (go_at_call 33; refine (with33 _ ys _ _ hown.ints (by omega)).mono ?_; rintro e w1 ⟨v1, rfl, hown1, hb1⟩)
      have hb1' := hb.trans (hb1.mono hbs)
      have hown1' := hown1.base hbs
      go_roundw
      case rel => exact ⟨k + 1, _, by go_num, by omega, hown1', hb1', by have := Plain.ins_length (el zs k) ys false; omega, by
        rw [← HS.out, HE.out]; exact Plain.into_drop hz⟩
      case measure => simp [intOf]; omega
    · go_wp2
      go_ret
      refine ⟨_, rfl, ?_, hb⟩
      rw [← HS.out, Plain.into_end (by rw [HL.out]; exact hlt)]
      exact hown

set_option maxHeartbeats 400000 in
theorem union22 (v u : Value) (zs xs : List Int) (w : World) (h : IntsAt w v zs) (h' : IntsAt w u xs) (hbig : zs.length < 10000000) (hbig' : xs.length < 10000000) :
    Calls Try.prog 22 #[v, u] w (RetOwn 3 w (Plain.into (Plain.of zs) xs)) := by
  obtain ⟨A, n, c, rfl, hl, hc, hm, hr⟩ := h'
  have HL := Lib.hid hl; clear hl
  have HR := Lib.hid hr; clear hr
  have hm : n < 10000000 := by rw [← HL.out]; exact hbig'
  have hol := Plain.of_length zs
  clear hc hbig'
  go_enter Try.func22, Try.ntmps22
  go_wp2_with (go_at_call 21; refine (of21 _ zs _ h (by omega)).mono ?_; rintro e w0 ⟨v0, rfl, hown0, hb0⟩)
  go_loopw [5, 6] (fun o s wr => ∃ (k : Nat) (ys : List Int), s = .int .i64 k ∧ k ≤ n ∧ Own wr w.heap.size 3 o ys ∧ Below w.heap.size w wr ∧ ys.length ≤ zs.length + k ∧ Plain.into ys (xs.drop k) = Plain.into (Plain.of zs) xs)
    (fun _ s _ => n - (intOf s).toNat)
  case atStart => exact ⟨0, _, rfl, Nat.zero_le _, hown0, hb0, by omega, rfl⟩
  case round =>
    obtain ⟨k, ys, rfl, hk, hown, hb, hy, hs⟩ := hrel
    have HS := Lib.hid hs; clear hs
    by_cases hlt : k < n
    · obtain ⟨bk, off, rfl, hx⟩ := HR.out (by omega)
      have hxk := Go.Proofs.Ytfiilodghimajaa.cell_later hb (Nat.le_refl _) (hx k hlt)
      clear hx
      have hz : k < xs.length := by rw [HL.out]; exact hlt
      have HE := Lib.hid (el_lt hz)
      have hbs := hb.size
      go_wp2_with (go_at_call 33; refine (with33 _ ys _ _ hown.ints (by omega)).mono ?_; rintro e w1 ⟨v1, rfl, hown1, hb1⟩)
      have hb1' := hb.trans (hb1.mono hbs)
      have hown1' := hown1.base hbs
      go_roundw
      case rel => exact ⟨k + 1, _, by go_num, by omega, hown1', hb1', by have := Plain.ins_length (el xs k) ys false; omega, by
        rw [← HS.out, HE.out]; exact Plain.into_drop hz⟩
      case measure => simp [intOf]; omega
    · go_wp2
      go_ret
      refine ⟨_, rfl, ?_, hb⟩
      rw [← HS.out, Plain.into_end (by rw [HL.out]; exact hlt)]
      exact hown

set_option maxHeartbeats 400000 in
theorem meet23 (v u : Value) (zs xs : List Int) (w : World) (h : IntsAt w v zs) (h' : IntsAt w u xs) (hbig : zs.length < 10000000) :
    Calls Try.prog 23 #[v, u] w (RetOwn 3 w ((Plain.of zs).filter fun z => decide (z ∈ xs))) := by
  have hol := Plain.of_length zs
  go_enter Try.func23, Try.ntmps23
  go_wp2_with (go_at_call 21; refine (of21 _ zs _ h (by omega)).mono ?_; rintro e w0 ⟨v0, rfl, hown0, hb0⟩)
  obtain ⟨A, n, c, rfl, hl, hc, hm, hr⟩ := hown0.ints
  have HL := Lib.hid hl; clear hl
  have HR := Lib.hid hr; clear hr
  have hm : n < 10000000 := by have := HL.out; omega
  clear hc hown0
  have hb0s := hb0.size
  go_loopw [5, 7] (fun o s wr => ∃ (k : Nat) (ys : List Int), s = .int .i64 k ∧ k ≤ n ∧ Own wr w0.heap.size 3 o ys ∧ Below w0.heap.size w0 wr ∧ ys.length ≤ k ∧ ys ++ ((Plain.of zs).drop k).filter (fun z => decide (z ∈ xs)) = (Plain.of zs).filter fun z => decide (z ∈ xs))
    (fun _ s _ => n - (intOf s).toNat)
  case atStart => exact ⟨0, [], rfl, Nat.zero_le _, Own.nil _ _ _, Below.refl _ _, by simp, rfl⟩
  case round =>
    obtain ⟨k, ys, rfl, hk, hown, hb, hy, hs⟩ := hrel
    have HS := Lib.hid hs; clear hs
    by_cases hlt : k < n
    · obtain ⟨bk, off, rfl, hx⟩ := HR.out (by omega)
      have hxk := Go.Proofs.Ytfiilodghimajaa.cell_later hb (Nat.le_refl _) (hx k hlt)
      clear hx
      have hz : k < (Plain.of zs).length := by rw [HL.out]; exact hlt
      have HE := Lib.hid (el_lt hz)
      have hbs := hb.size
      have hu := (h'.below hb0 (Nat.le_refl _)).below hb (Nat.le_refl _)
      have hcase : Hid (decide (el (Plain.of zs) k ∈ xs) = true) ∨ Hid (decide (el (Plain.of zs) k ∈ xs) = false) := by
        cases h : decide (el (Plain.of zs) k ∈ xs)
        · first | exact .inl rfl | exact .inr rfl
        · first | exact .inl rfl | exact .inr rfl
      rcases hcase with HQ | HQ
      · go_wp2_with (first
          | (go_at_call 20; refine (has20 _ xs _ _ hu).mono ?_; rintro e w1 ⟨rfl, rfl⟩; rw [HQ.out])
          | (at_builtin; refine app_int elem22 _ _ rfl rfl w0.heap.size _ ys rfl (hown.alloc _) _ (el (Plain.of zs) k) _ rfl (by simp) (by simp; omega) (by omega) ?_; intro v1 w1 hown1 hb1; have hb1' : Below w0.heap.size w0 w1 := (hb.alloc (by omega) _).trans hb1))
        go_roundw
        case rel => exact ⟨k + 1, _, by go_num, by omega, hown1, hb1', by simp; omega, by
          rw [← HS.out, HE.out]; exact Plain.filter_drop hz (by have h := HQ.out; rw [HE.out] at h; simpa using h)⟩
        case measure => simp [intOf]; omega
      · go_wp2_with (go_at_call 20; refine (has20 _ xs _ _ hu).mono ?_; rintro e w1 ⟨rfl, rfl⟩; rw [HQ.out])
        go_roundw
        case rel => exact ⟨k + 1, _, by go_num, by omega, hown, hb, by omega, by
          rw [← HS.out]; exact Plain.filter_skip hz (by have h := HQ.out; rw [HE.out] at h; simpa using h)⟩
        case measure => simp [intOf]; omega
    · go_wp2
      go_ret
      refine ⟨_, rfl, ?_, hb0.trans (hb.mono hb0s)⟩
      rw [← HS.out, Plain.filter_end (by rw [HL.out]; exact hlt)]
      exact hown.base hb0s
set_option maxHeartbeats 400000 in
theorem minus25 (v u : Value) (zs xs : List Int) (w : World) (h : IntsAt w v zs) (h' : IntsAt w u xs) (hbig : zs.length < 10000000) :
    Calls Try.prog 25 #[v, u] w (RetOwn 3 w ((Plain.of zs).filter fun z => !decide (z ∈ xs))) := by
  have hol := Plain.of_length zs
  go_enter Try.func25, Try.ntmps25
  go_wp2_with (go_at_call 21; refine (of21 _ zs _ h (by omega)).mono ?_; rintro e w0 ⟨v0, rfl, hown0, hb0⟩)
  obtain ⟨A, n, c, rfl, hl, hc, hm, hr⟩ := hown0.ints
  have HL := Lib.hid hl; clear hl
  have HR := Lib.hid hr; clear hr
  have hm : n < 10000000 := by have := HL.out; omega
  clear hc hown0
  have hb0s := hb0.size
  go_loopw [5, 7] (fun o s wr => ∃ (k : Nat) (ys : List Int), s = .int .i64 k ∧ k ≤ n ∧ Own wr w0.heap.size 3 o ys ∧ Below w0.heap.size w0 wr ∧ ys.length ≤ k ∧ ys ++ ((Plain.of zs).drop k).filter (fun z => !decide (z ∈ xs)) = (Plain.of zs).filter fun z => !decide (z ∈ xs))
    (fun _ s _ => n - (intOf s).toNat)
  case atStart => exact ⟨0, [], rfl, Nat.zero_le _, Own.nil _ _ _, Below.refl _ _, by simp, rfl⟩
  case round =>
    obtain ⟨k, ys, rfl, hk, hown, hb, hy, hs⟩ := hrel
    have HS := Lib.hid hs; clear hs
    by_cases hlt : k < n
    · obtain ⟨bk, off, rfl, hx⟩ := HR.out (by omega)
      have hxk := Go.Proofs.Ytfiilodghimajaa.cell_later hb (Nat.le_refl _) (hx k hlt)
      clear hx
      have hz : k < (Plain.of zs).length := by rw [HL.out]; exact hlt
      have HE := Lib.hid (el_lt hz)
      have hbs := hb.size
      have hu := (h'.below hb0 (Nat.le_refl _)).below hb (Nat.le_refl _)
      have hcase : Hid (decide (el (Plain.of zs) k ∈ xs) = false) ∨ Hid (decide (el (Plain.of zs) k ∈ xs) = true) := by
        cases h : decide (el (Plain.of zs) k ∈ xs)
        · first | exact .inl rfl | exact .inr rfl
        · first | exact .inl rfl | exact .inr rfl
      rcases hcase with HQ | HQ
      · go_wp2_with (first
          | (go_at_call 20; refine (has20 _ xs _ _ hu).mono ?_; rintro e w1 ⟨rfl, rfl⟩; rw [HQ.out])
          | (at_builtin; refine app_int elem22 _ _ rfl rfl w0.heap.size _ ys rfl (hown.alloc _) _ (el (Plain.of zs) k) _ rfl (by simp) (by simp; omega) (by omega) ?_; intro v1 w1 hown1 hb1; have hb1' : Below w0.heap.size w0 w1 := (hb.alloc (by omega) _).trans hb1))
        go_roundw
        case rel => exact ⟨k + 1, _, by go_num, by omega, hown1, hb1', by simp; omega, by
          rw [← HS.out, HE.out]; exact Plain.filter_drop hz (by have h := HQ.out; rw [HE.out] at h; simpa using h)⟩
        case measure => simp [intOf]; omega
      · go_wp2_with (go_at_call 20; refine (has20 _ xs _ _ hu).mono ?_; rintro e w1 ⟨rfl, rfl⟩; rw [HQ.out])
        go_roundw
        case rel => exact ⟨k + 1, _, by go_num, by omega, hown, hb, by omega, by
          rw [← HS.out]; exact Plain.filter_skip hz (by have h := HQ.out; rw [HE.out] at h; simpa using h)⟩
        case measure => simp [intOf]; omega
    · go_wp2
      go_ret
      refine ⟨_, rfl, ?_, hb0.trans (hb.mono hb0s)⟩
      rw [← HS.out, Plain.filter_end (by rw [HL.out]; exact hlt)]
      exact hown.base hb0s

end Go.Proofs.Ytfiilodghimajaa
