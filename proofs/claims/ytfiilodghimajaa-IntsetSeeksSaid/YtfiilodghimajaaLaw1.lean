/-
  The walks of the statements IntsetSeeks and IntsetSplits.
-/
import Derived.Test.YtfiilodghimajaaAlive
namespace Go.Proofs.Ytfiilodghimajaa
open Go.RowKit

set_option maxHeartbeats 400000 in
theorem law3 (v : Value) (zs : List Int) (i x : Int) (w : World) (h : IntsAt w v zs) :
    Calls Try.prog 3 #[v, .int .i64 i, .int .i64 x] w (RetBool true w) := by
  have hcase : Hid (smallB zs [] = true) ∨ Hid (smallB zs [] = false) := by
    cases h : smallB zs []
    · exact .inr rfl
    · exact .inl rfl
  rcases hcase with HS | HS
  · go_enter Try.func3, Try.ntmps3
    go_wp2_with fail
    refine (small9 _ _ zs [] _ h (IntsAt.nil w)).mono ?_
    rintro e w1 ⟨rfl, rfl⟩
    rw [HS.out]
    go_wp2_with fail
    refine (seek11 _ zs _ _ _ h).mono ?_
    rintro e w1 ⟨rfl, rfl⟩
    go_wp2_with fail
    refine (seek12 _ zs _ _ _ h).mono ?_
    rintro e w1 ⟨rfl, rfl⟩
    go_wp2_with fail
    refine (alive10 _).mono ?_
    rintro e w1 ⟨rfl, hb⟩
    go_wp2_with fail
    go_ret
    exact ⟨rfl, hb⟩
  · go_enter Try.func3, Try.ntmps3
    go_wp2_with fail
    refine (small9 _ _ zs [] _ h (IntsAt.nil w)).mono ?_
    rintro e w1 ⟨rfl, rfl⟩
    rw [HS.out]
    go_wp2_with fail
    refine (alive10 _).mono ?_
    rintro e w1 ⟨rfl, hb⟩
    go_wp2_with fail
    go_ret
    exact ⟨rfl, hb⟩

end Go.Proofs.Ytfiilodghimajaa
