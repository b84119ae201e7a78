/-
  TopTriangles: that the program starts nothing of its own (for the card).
-/
import Derived.Test.YtnbcneiicnepcaaGreatDoorRows
import Derived.Test.YtnbcneiicnepcaaGreatDoorTie
import Derived.Test.YtnbcneiicnepcaaGreatDoorCards
import Derived.SevenTiedAt
namespace Go.Proofs.YtnbcneiicnepcaaGreatDoor.topTriangles
open Go

theorem d1 : Tryz.pinned.checked.prog.funcs.any Func.goes = false := by kernel_rfl
theorem goes_none {P : Program} (h : P.funcs.any Func.goes = false) (f : FuncId) : P.goes f = false := by
  unfold Program.goes
  rw [h, Bool.and_false, Bool.or_false, List.any_eq_false]
  intro g _
  cases e : P.funcs[g]? with
  | none => simp
  | some fn =>
    obtain ⟨hl, he⟩ := Array.getElem?_eq_some_iff.1 e
    have := Array.any_eq_false.1 h g hl
    rw [he] at this
    simpa using this
theorem goesBy_none {P : Program} (h : P.funcs.any Func.goes = false) {c : OpenClaim} (hs : c.start = .entering) : false = c.goesBy P := by
  unfold OpenClaim.goesBy Program.goesAt Program.goesFrom
  rw [hs]
  cases P.funcNamed c.func with
  | none => rfl
  | some f => simp [goes_none h f]
theorem c3 : false = Rows.topTrianglesRow.goesBy Tryz.pinned.checked.prog := goesBy_none d1 rfl

end Go.Proofs.YtnbcneiicnepcaaGreatDoor.topTriangles
