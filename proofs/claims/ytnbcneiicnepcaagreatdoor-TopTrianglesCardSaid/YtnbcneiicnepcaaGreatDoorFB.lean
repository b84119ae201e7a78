/-
  TopTriangles: the statement without its card, out of the contract.
-/
import Derived.Test.YtnbcneiicnepcaaGreatDoorFA
import Derived.Test.YtnbcneiicnepcaaGreatDoorFG
namespace Go.Proofs.YtnbcneiicnepcaaGreatDoor.topTriangles
open Go.ChangeShapes Go.WideShapes Go.ChangeAt Go.RowKit
set_option linter.unusedVariables false

theorem over : Rows.TopTrianglesSaid :=
  OpenClaim.holds_of_wide 3 Tryz.f3 rfl rfl rfl rfl rfl rfl rfl ⟨rfl, rfl, rfl, rfl, rfl⟩ rfl rfl rfl rfl rfl (by kernel_rfl) Tryz.func3 closed
    (of_decide_eq_true (by kernel_rfl)) (by unfold Func.isWrapper; first | (rw [if_pos (by decide +kernel)]; kernel_rfl) | (rw [if_neg (by decide +kernel)]; exact ⟨rfl, rfl⟩))
    (fun os started H enc _ => lifted os started H enc)

end Go.Proofs.YtnbcneiicnepcaaGreatDoor.topTriangles
