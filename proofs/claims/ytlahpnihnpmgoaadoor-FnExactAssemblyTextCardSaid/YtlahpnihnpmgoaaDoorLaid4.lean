/- What the row's condition on four listed package-level variables gives: the table of powers of ten, the names of the ops; and that the heap that the program's own start leaves meets it. No conditions. -/
import Derived.Test.YtlahpnihnpmgoaaDoorLaid
import Derived.Test.YtlahpnihnpmgoaaDoorOn
import Derived.OpenVars
import Derived.Stop.LaidErr
namespace Go.Proofs.YtlahpnihnpmgoaaDoor
open Go.ChangeShapes Go.WideShapes Go.ChangeAt Go.RowKit
set_option linter.unusedVariables false
set_option linter.unusedSimpArgs false

def lst4 : List (String × DataW Unit) := [("math/bits.deBruijn32tab", Rows.laid_math_bits_deBruijn32tab), ("math/bits.deBruijn64tab", Rows.laid_math_bits_deBruijn64tab), ("internal/strconv.uint64pow10", Rows.laid_internal_strconv_uint64pow10), ("loop.example/g00843/impl.opNames", Rows.laid_loop_example_g00843_impl_opNames)]
theorem door_met4 (os : Os) (args : Array Value) : laidMetH Tryd.prog lst4 ((World.doorLaid Tryd.prog 400 os).forCall (fun _ _ => 0) ⟨#[], args, []⟩).memory :=
  laidMetH_of_parts3 (fuel := 8) (laidMet_of_run' 8 (by kernel_rfl) (by kernel_rfl)) (by kernel_rfl) (by kernel_rfl)
theorem tab_of4 {W : World} (h : laidMetH Tryd.prog lst4 W) : Tab W := by
  rw [MakeChecks.laidMetH_plain _ _ _ (by kernel_rfl)] at h
  obtain ⟨ps, ⟨g0, t0, cs0, f0, p0, q0, hg2, ht2, hv2, hd2, _, _⟩, _⟩ := h.tail.tail
  obtain rfl := Option.some.inj (gPow.symm.trans hg2)
  obtain rfl := Option.some.inj (tPow.symm.trans ht2)
  show Lib.TabIs _ _ _ _ _
  unfold Lib.TabIs
  rw [hv2, ← Lib.cells_of_tab (k := .u64) (zs := Lib.pow10Tab) Tryd.underlying105 Tryd.underlying64 (by kernel_rfl) (by kernel_rfl) hd2]
theorem nms_of4 {W : World} (h : laidMetH Tryd.prog lst4 W) : Nms W := by
  rw [MakeChecks.laidMetH_plain _ _ _ (by kernel_rfl)] at h
  obtain ⟨ps, ⟨g0, t0, cs0, f0, p0, q0, hg2, ht2, hv2, hd2, _, _⟩, _⟩ := h.tail.tail.tail
  obtain rfl := Option.some.inj (gNms.symm.trans hg2)
  obtain rfl := Option.some.inj (tNms.symm.trans ht2)
  rw [opN_laid] at hd2
  unfold Nms
  rw [hv2, ← cells_of_strs (zs := opN) Tryd.underlying52 Tryd.underlying9 (by kernel_rfl) (by kernel_rfl) hd2]
end Go.Proofs.YtlahpnihnpmgoaaDoor
