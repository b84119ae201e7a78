/-
  TopTriangles: for every input the call returns true, and every argument reads behind the call as it read before. (The frame round the contract is after the guide's shell.)
-/
import Derived.Test.YtnbcneiicnepcaaGreatDoorFB
import Derived.Test.YtnbcneiicnepcaaGreatDoorFH
import Derived.Test.YtnbcneiicnepcaaGreatDoorFI
import Derived.Test.YtnbcneiicnepcaaGreatDoorFJ
import Derived.Test.YtnbcneiicnepcaaGreatDoorTie
import Derived.Test.YtnbcneiicnepcaaGreatDoorCards
import Derived.SevenTiedAt
namespace Go.Proofs.YtnbcneiicnepcaaGreatDoor.topTriangles
open Go.ChangeShapes Go.WideShapes Go.ChangeAt Go.RowKit
set_option linter.unusedVariables false

theorem proved : Rows.TopTrianglesCardSaid :=
  Claim7.holds_tied_plain_at .later [] [.data, .data, .data, .data, .data, .pinned] true (true, "4dcc733dfb26750ec528f66a3f080b1d0dbab10bb80c4e0be93c5d1bc52bdab9") true over (fun _ h => by cases h) c6 (fun _ h => by cases h) topTriangles_row_tie rfl ⟨rfl, rfl⟩ c1 rfl
    (fun f fn hf hfn => by
      obtain rfl : f = 3 := (Option.some.inj (c5.symm.trans hf)).symm
      obtain rfl : fn = Tryz.f3 := (Option.some.inj (Tryz.func3.symm.trans hfn)).symm
      exact ⟨c2, fun j t ht => by
        rw [Tryz.params3] at ht
        have hm : t ∈ [25] := by simpa using Array.mem_of_getElem? ht
        exact (show Tryz.prog.wantsStandIn t = false by simpa using List.all_eq_true.1 c4 t hm)⟩)
    c3
end Go.Proofs.YtnbcneiicnepcaaGreatDoor.topTriangles
