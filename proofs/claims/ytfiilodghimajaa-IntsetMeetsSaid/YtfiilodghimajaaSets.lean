/-
  The walks of the program's Of and Has, over the library's Clone, Sort, Compact and Contains by their contracts.
-/
import Derived.Test.YtfiilodghimajaaReads
import Derived.Test.YtfiilodghimajaaWith
import Derived.Test.YtfiilodghimajaaPlain2
import Derived.Test.YtfiilodghimajaaShelf
import Derived.Lib.OwnBridge
import Derived.Sort.OwnSortedInts
namespace Go.Proofs.Ytfiilodghimajaa
open Go.RowKit

theorem own_form {w : World} {B : Nat} {e : TypeId} {v : Value} {zs : List Int} (h : Own w B e v zs) :
    (v = .slice none 0 0 ∧ zs = []) ∨ ∃ g cap, v = .slice (some ⟨g, 0, none⟩) zs.length cap ∧ B ≤ g ∧ g < w.heap.size ∧ zs.length ≤ cap ∧ cap ≤ maxLen := by
  obtain ⟨h1, h2⟩ := h
  rcases h2 with ⟨rfl, h2⟩ | ⟨g, cap, cur, hv, hg, hh, hc, hm, _⟩
  · exact .inl ⟨rfl, List.length_eq_zero_iff.1 h2⟩
  · refine .inr ⟨g, cap, hv, hg, ?_, hc, hm⟩
    rcases Nat.lt_or_ge g w.heap.size with h | h
    · exact h
    · rw [Array.getElem?_eq_none h] at hh; cases hh

theorem clone28 (v : Value) (zs : List Int) (w : World) (h : IntsAt w v zs) (hbig : zs.length < 1000000000) : Calls Try.prog 28 #[v] w (RetOwn 3 w zs) := by
  obtain ⟨A, n, c, rfl, hl, hc, hm, hr⟩ := h
  cases A with
  | none =>
    have h0 : n = 0 := by
      rcases Nat.eq_zero_or_pos n with h | h
      · exact h
      · obtain ⟨b, off, hx, _⟩ := hr h
        cases hx
    subst h0
    refine (Try.slices_Clone_int_nil 0 c w).mono ?_
    rintro e w' ⟨rfl, rfl⟩
    obtain rfl := List.length_eq_zero_iff.1 hl
    exact ⟨_, rfl, Own.nil _ _ _, Below.refl _ _⟩
  | some a =>
    rcases Nat.eq_zero_or_pos n with h0 | h0
    · subst h0
      refine (Try.slices_Clone_int_zero a c w).mono ?_
      rintro e w' ⟨v', rfl, ho, _, hb⟩
      obtain rfl := List.length_eq_zero_iff.1 hl
      exact ⟨_, rfl, ho, hb⟩
    · obtain ⟨b, off, hx, hcell⟩ := hr h0
      cases hx
      refine (Try.slices_Clone_int b off n c zs w (by omega) (by omega) (fun j hj => hcell j (by omega))).mono ?_
      rintro e w' ⟨v', rfl, ho, _, hb⟩
      rw [List.take_of_length_le (by omega)] at ho
      subst hl
      exact ⟨_, rfl, ho, hb⟩

theorem sort29 (v : Value) (zs : List Int) (w : World) (B : Nat) (h : Own w B 3 v zs) (hbig : zs.length < 1000000000) :
    Calls Try.prog 29 #[v] w fun e w' => e = .returned (.tuple #[]) ∧ Own w' B 3 v (zs.mergeSort fun x y => decide (x ≤ y)) ∧ Below B w w' := by
  have h0 := h
  obtain ⟨_, h2⟩ := h
  rcases h2 with ⟨rfl, h2⟩ | ⟨g, cap, cur, rfl, hg, hh, hc, hm, hs, ht⟩
  · refine (Try.slices_Sort_int_none none 0 w).mono ?_
    rintro e w' ⟨rfl, rfl⟩
    obtain rfl := List.length_eq_zero_iff.1 h2
    exact ⟨rfl, by simpa using h0, Below.refl _ _⟩
  · have hlt : g < w.heap.size := by
      rcases Nat.lt_or_ge g w.heap.size with h' | h'
      · exact h'
      · rw [Array.getElem?_eq_none h'] at hh; cases hh
    refine (Try.slices_Sort_int g 0 cap zs w (holds_of_blockI hh (by simpa using ht)) hlt (by omega)).mono ?_
    rintro e w' ⟨rfl, n, os, rfl⟩
    have hl : (zs.mergeSort fun x y => decide (x ≤ y)).length = zs.length := by simp
    refine ⟨rfl, ?_, ?_⟩
    · have := ownsRow_sortedI (w := w) (base := B) (n := n) (os := os) hl hg hh hc hm hs
      unfold Own
      rw [hl]
      exact this
    · have hgb := grownBy_sortedI (w := w) (g := g) (n := n) (os := os) (zs.mergeSort fun x y => decide (x ≤ y)).toArray
      refine ⟨hgb.os, hgb.tape, hgb.output, hgb.size, fun k hk => ?_⟩
      rcases Nat.lt_or_ge k w.heap.size with hk' | hk'
      · exact hgb.block k hk' (fun e => by injection e with e; omega)
      · omega

theorem compact30 (v : Value) (zs : List Int) (w : World) (B : Nat) (h : Own w B 3 v zs) (hbig : zs.length < 1000000000) :
    Calls Try.prog 30 #[v] w fun e w' => ∃ v', e = .returned v' ∧ Own w' B 3 v' (Lib.compact zs) ∧ Below B w w' := by
  by_cases hv : v = .slice none 0 0
  · subst hv
    refine (Try.slices_Compact_int_empty none 0 w).mono ?_
    rintro e w' ⟨rfl, rfl⟩
    have h2 : zs = [] := by
      rcases own_form h with ⟨_, h2⟩ | ⟨g, cap, hv, _⟩
      · exact h2
      · cases hv
    subst h2
    exact ⟨_, rfl, Own.nil _ _ _, Below.refl _ _⟩
  · obtain ⟨g, cap, rfl, hg, hlt, hc, hm, _, hH⟩ := Lib.holds_of_ownsRow h hv
    refine (Try.slices_Compact_int g 0 cap zs w hH (by omega) hc).mono ?_
    rintro e w' ⟨rfl, q, rfl⟩
    have hle := Lib.compact_length_le zs
    refine ⟨_, rfl, ?_, Lib.below_putRow (Below.refl _ _) hg⟩
    have := Lib.ownsRow_putRow (q := q) (ys := Lib.compact zs ++ List.replicate (zs.length - (Lib.compact zs).length) 0) h (by simp; omega) hle
    rw [List.take_left] at this
    exact this

theorem has32 (v : Value) (zs : List Int) (x : Int) (w : World) (h : IntsAt w v zs) :
    Calls Try.prog 32 #[v, .int .i64 x] w fun e w' => e = .returned (.bool (decide (x ∈ zs))) ∧ w = w' := by
  obtain ⟨A, n, c, rfl, hl, hc, hm, hr⟩ := h
  rcases Nat.eq_zero_or_pos n with h0 | h0
  · subst h0
    refine (Try.slices_Contains_int_empty A c x w).mono ?_
    rintro e w' ⟨rfl, rfl⟩
    obtain rfl := List.length_eq_zero_iff.1 hl
    exact ⟨by simp, rfl⟩
  · obtain ⟨b, off, rfl, hcell⟩ := hr h0
    unfold maxLen at hm
    refine (Try.slices_Contains_int b off n c zs x w (by omega) (by omega) (fun j hj => hcell j (by omega))).mono ?_
    rintro e w' ⟨rfl, rfl⟩
    rw [List.take_of_length_le (by omega)]
    exact ⟨ret_bool (by simp), rfl⟩

set_option maxHeartbeats 400000 in
theorem has19 (v : Value) (zs : List Int) (x : Int) (w : World) (h : IntsAt w v zs) :
    Calls Try.prog 19 #[v, .int .i64 x] w fun e w' => e = .returned (.bool (decide (x ∈ zs))) ∧ w = w' := by
  go_enter Try.func19, Try.ntmps19
  go_wp2_with (go_at_call 32; refine (has32 _ zs _ _ h).mono ?_; rintro e w1 ⟨rfl, rfl⟩)
  go_ret
  exact ⟨rfl, rfl⟩

set_option maxHeartbeats 400000 in
theorem of13 (v : Value) (zs : List Int) (w : World) (h : IntsAt w v zs) (hbig : zs.length < 100000000) :
    Calls Try.prog 13 #[v] w (RetOwn 3 w (Plain.of zs)) := by
  have hcase : Hid (Plain.valid zs = true) ∨ Hid (Plain.valid zs = false) := by
    cases h : Plain.valid zs
    · exact .inr rfl
    · exact .inl rfl
  rcases hcase with HV | HV
  · go_enter Try.func13, Try.ntmps13
    go_wp2_with (first
      | (go_at_call 28; refine (clone28 _ zs _ h (by omega)).mono ?_; rintro e w1 ⟨v1, rfl, hown1, hb1⟩)
      | (go_at_call 17; refine (valid17 _ zs _ hown1.ints).mono ?_; rintro e w2 ⟨rfl, m, rfl⟩; rw [HV.out]))
    go_ret
    refine ⟨_, rfl, ?_, below_drewN hb1 _⟩
    rw [Plain.of_valid HV.out]
    exact hown1
  · go_enter Try.func13, Try.ntmps13
    go_wp2_with (first
      | (go_at_call 28; refine (clone28 _ zs _ h (by omega)).mono ?_; rintro e w1 ⟨v1, rfl, hown1, hb1⟩)
      | (go_at_call 17; refine (valid17 _ zs _ hown1.ints).mono ?_; rintro e w2 ⟨rfl, m, rfl⟩; rw [HV.out])
      | (go_at_call 29; refine (sort29 _ zs _ w.heap.size (hown1.drewN m) (by omega)).mono ?_; rintro e w3 ⟨rfl, hown3, hb3⟩)
      | (go_at_call 30; refine (compact30 _ _ _ w.heap.size hown3 (by simp; omega)).mono ?_; rintro e w4 ⟨v4, rfl, hown4, hb4⟩))
    go_ret
    rw [Plain.compact_sort] at hown4
    exact ⟨_, rfl, hown4, ((below_drewN hb1 _).trans hb3).trans hb4⟩

end Go.Proofs.Ytfiilodghimajaa
