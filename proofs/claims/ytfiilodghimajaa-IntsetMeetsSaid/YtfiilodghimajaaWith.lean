/-
  The walk of the reference's insertion 'with'.
-/
import Derived.Test.YtfiilodghimajaaChecked
import Derived.Test.YtfiilodghimajaaKit
import Derived.Test.YtfiilodghimajaaPlain
namespace Go.Proofs.Ytfiilodghimajaa
open Go.RowKit

theorem elem22 : IntElem Try.prog 22 3 := IntElem.of Try.underlying22 (by kernel_rfl)

set_option maxHeartbeats 400000 in
theorem with33 (v : Value) (zs : List Int) (x : Int) (w : World) (h : IntsAt w v zs) (hbig : zs.length < 1000000000) :
    Calls Try.prog 33 #[v, .int .i64 x] w (RetOwn 3 w (Plain.ins x zs false)) := by
  obtain ⟨A, n, c, rfl, hl, hc, hm, hr⟩ := h
  have HL := Lib.hid hl; clear hl
  have HR := Lib.hid hr; clear hr
  have hm : n < 1000000000 := by rw [← HL.out]; exact hbig
  clear hc hbig
  go_enter Try.func33, Try.ntmps33
  go_wp2
  go_loopw [5, 6, 7] (fun o d s wr => ∃ (k : Nat) (b : Bool) (ys : List Int), s = .int .i64 k ∧ d = .bool b ∧ k ≤ n ∧ Own wr w.heap.size 3 o ys ∧ Below w.heap.size w wr ∧ ys.length ≤ k + 1 ∧ (b = false → ys.length ≤ k) ∧ ys ++ Plain.ins x (zs.drop k) b = Plain.ins x zs false)
    (fun _ _ s _ => n - (intOf s).toNat)
  case atStart => exact ⟨0, false, [], rfl, rfl, Nat.zero_le _, Own.nil _ _ _, Below.refl _ _, by simp, by simp, by simp⟩
  case round =>
    obtain ⟨k, b, ys, rfl, rfl, hk, hown, hb, hy, hy0, hs⟩ := hrel
    have HY0 := Lib.hid hy0; clear hy0
    have HS := Lib.hid hs; clear hs
    by_cases hlt : k < n
    · obtain ⟨bk, off, rfl, hx⟩ := HR.out (by omega)
      have hx0 := hx k hlt
      clear hx
      have hxk := Go.Proofs.Ytfiilodghimajaa.cell_later hb (Nat.le_refl _) hx0
      have hz : k < zs.length := by rw [HL.out]; exact hlt
      have HE := Lib.hid (el_lt hz)
      have hbs := hb.size
      by_cases hq : (el zs k == x) = true
      · have hq1 : decide (x < el zs k) = false := by simp at hq ⊢; omega
        go_wp2_with (at_builtin; refine app_int elem22 _ _ rfl rfl w.heap.size _ ys rfl (hown.alloc _) _ (el zs k) _ rfl (by simp) (by simp; omega) (by omega) ?_; intro v1 w1 hown1 hb1)
        have hb1' : Below w.heap.size w w1 := (hb.alloc (by omega) _).trans hb1
        go_roundw
        case rel => exact ⟨k + 1, true, _, by go_num, rfl, by omega, hown1, hb1', by simp; omega, fun h => by first | (simp at h; done) | (have := HY0.out rfl; simp; omega), by
          rw [← HS.out, HE.out]
          exact Plain.ins_step_one hz (fun h => by rw [← HE.out, hq] at h; simp at h) (by rw [← HE.out, hq]; simp)⟩
        case measure => simp [intOf]; omega
      · have hq : (el zs k == x) = false := by simpa using hq
        by_cases hq1 : x < el zs k ∧ b = false
        · obtain ⟨hq1, rfl⟩ := hq1
          go_wp2_with (first
            | (at_builtin; refine app_int elem22 (.tmp 30) (.tmp 32) rfl rfl w.heap.size _ ys rfl (hown.alloc _) _ x _ rfl (by simp) (by simp; omega) (by omega) ?_; intro v1 w1 hown1 hb1; have hb1' : Below w.heap.size w w1 := (hb.alloc (by omega) _).trans hb1; have hbs1 := hb1'.size; have hxk1 := Go.Proofs.Ytfiilodghimajaa.cell_later hb1' (Nat.le_refl _) hx0)
            | (at_builtin; refine app_int elem22 (.tmp 34) (.tmp 39) rfl rfl w.heap.size _ (ys ++ [x]) rfl (hown1.alloc _) _ (el zs k) _ rfl (by simp) (by simp; omega) (by simp; omega) ?_; intro v2 w2 hown2 hb2))
          have hb2' : Below w.heap.size w w2 := (hb1'.alloc (by omega) _).trans hb2
          go_roundw
          case rel => exact ⟨k + 1, true, _, by go_num, rfl, by omega, hown2, hb2', by have := HY0.out rfl; simp; omega, fun h => by simp at h, by
            rw [← HS.out, HE.out]
            exact Plain.ins_step_two hz (by rw [← HE.out]; exact hq1) (by rw [← HE.out, hq]; rfl)⟩
          case measure => simp [intOf]; omega
        · have HD : (decide (x < el zs k) && !b) = false := by
            cases b <;> simp at hq1 ⊢ <;> omega
          cases b
          all_goals
            by_cases hq2 : x < el zs k
            all_goals first
              | (exfalso; revert HD; simp [hq2]; done)
              | skip
            all_goals
              go_wp2_with (at_builtin; refine app_int elem22 _ _ rfl rfl w.heap.size _ ys rfl (hown.alloc _) _ (el zs k) _ rfl (by simp) (by simp; omega) (by omega) ?_; intro v1 w1 hown1 hb1)
              have hb1' : Below w.heap.size w w1 := (hb.alloc (by omega) _).trans hb1
              go_roundw
              case rel => exact ⟨k + 1, _, _, by go_num, rfl, by omega, hown1, hb1', by simp; omega, fun h => by first | (simp at h; done) | (have := HY0.out rfl; simp; omega), by
                rw [← HS.out, HE.out]
                exact Plain.ins_step_one hz (fun h => by rw [← HE.out, hq] at h; simp at h; try omega) (by rw [← HE.out, hq]; simp)⟩
              case measure => simp [intOf]; omega
    · cases b
      · have hbs := hb.size
        go_wp2_with (at_builtin; refine app_int elem22 _ _ rfl rfl w.heap.size _ ys rfl (hown.alloc _) _ x _ rfl (by simp) (by simp; omega) (by omega) ?_; intro v1 w1 hown1 hb1)
        have hb1' : Below w.heap.size w w1 := (hb.alloc (by omega) _).trans hb1
        go_ret
        refine ⟨_, rfl, ?_, hb1'⟩
        rw [← HS.out, List.drop_eq_nil_of_le (by have := HL.out; omega)]
        exact hown1
      · go_wp2
        go_ret
        refine ⟨_, rfl, ?_, hb⟩
        rw [← HS.out, List.drop_eq_nil_of_le (by have := HL.out; omega)]
        simpa [Plain.ins] using hown

end Go.Proofs.Ytfiilodghimajaa
