/-
  nat: how the arguments read; the table.
-/
import Derived.Test.YtankjfiaajpfoaaDoorN18
import Derived.Test.YtankjfiaajpfoaaDoorAm26
import Derived.Test.YtankjfiaajpfoaaDoorRows
import Derived.MakeChecks
import Derived.LaidMore
namespace Go.Proofs.YtankjfiaajpfoaaDoor
open Go.RowKit

theorem natR : Reads Tryd.prog 23 (List Int) (WfL I64) := reads_list (e := 3) (by kernel_rfl) (by kernel_rfl) (by rw [show szT Tryd.prog 3 = 1 by kernel_rfl]; decide) (reads_int (by kernel_rfl))
theorem intR : Reads Tryd.prog 3 Int I64 := reads_int (by kernel_rfl)
theorem strR : Reads Tryd.prog 9 ByteArray (fun s => s.size ≤ maxLen) := reads_str (by kernel_rfl)

abbrev laid3 : List (String × DataW Unit) := [("math/bits.deBruijn32tab", Rows.laid_math_bits_deBruijn32tab), ("math/bits.deBruijn64tab", Rows.laid_math_bits_deBruijn64tab), ("internal/strconv.uint64pow10", Rows.laid_internal_strconv_uint64pow10)]
theorem tabEq : (Rows.laid_internal_strconv_uint64pow10 : DataW Unit) = Lib.tabData .u64 Lib.pow10Tab := by kernel_rfl

theorem hG_of_laid {W : World} (h : laidMetH Tryd.prog laid3 W) : ∀ g, RepD W (fun _ => False) (.pointer (some ⟨g, 0, none⟩)) (G1 g) := by
  rw [MakeChecks.laidMetH_plain _ _ _ (by kernel_rfl)] at h
  obtain ⟨ps, ⟨g0, t0, cs0, f0, p0, q0, _, _, _, _, ⟨g1, t1, cs1, f1, p1, q1, _, _, _, _, ⟨g2, t2, cs2, f2, p2, q2, hg2, ht2, hv2, hd2, _, _⟩, _⟩, _⟩, _, _⟩ := h
  have hgt : Tryd.prog.globalNamed "internal/strconv.uint64pow10" = some 0 := by kernel_rfl
  have htt : (Tryd.prog.globals[0]?).map (·.type) = some 80 := by kernel_rfl
  obtain rfl := Option.some.inj (hgt.symm.trans hg2)
  obtain rfl := Option.some.inj (htt.symm.trans ht2)
  rw [tabEq] at hd2
  have ht : Lib.TabIs Tryd.prog W "internal/strconv.uint64pow10" .u64 Lib.pow10Tab := by
    unfold Lib.TabIs
    rw [hv2, ← Lib.cells_of_tab (t := 80) (e := 69) (n := 20) (by kernel_rfl) (by kernel_rfl) (by kernel_rfl) (by kernel_rfl) hd2]
  intro g
  unfold G1
  split
  · rename_i hg
    subst hg
    unfold Lib.TabIs World.var? at ht
    rw [gP10_is] at ht
    simp only [Option.bind_some] at ht
    split at ht
    · rename_i cs t fr hb
      injection ht with ht
      subst ht
      exact .tab _ _ _ t fr hb id
    · cases ht
  · exact .undef _
end Go.Proofs.YtankjfiaajpfoaaDoor
