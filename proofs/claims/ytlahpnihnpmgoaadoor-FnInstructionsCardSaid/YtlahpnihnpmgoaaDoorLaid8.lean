/- What the row's condition on eight listed package-level variables gives: the table of powers of ten, the names of the ops, the error of a text that is no number; and that the heap that the program's own start leaves meets it. No conditions. -/
import Derived.Test.YtlahpnihnpmgoaaDoorLaid
import Derived.Test.YtlahpnihnpmgoaaDoorOn
import Derived.Test.YtlahpnihnpmgoaaDoorPe
import Derived.OpenVars
import Derived.Stop.LaidErr
import Derived.Lay
import Derived.LaidMore
namespace Go.Proofs.YtlahpnihnpmgoaaDoor
open Go.ChangeShapes Go.WideShapes Go.ChangeAt Go.RowKit
set_option linter.unusedVariables false
set_option linter.unusedSimpArgs false

def lst8 : List (String × DataW Unit) := [("math/bits.deBruijn32tab", Rows.laid_math_bits_deBruijn32tab), ("math/bits.deBruijn64tab", Rows.laid_math_bits_deBruijn64tab), ("internal/strconv.uint64pow10", Rows.laid_internal_strconv_uint64pow10), ("unicode/utf8.acceptRanges", Rows.laid_unicode_utf8_acceptRanges), ("strconv.ErrRange", Rows.laid_strconv_ErrRange), ("strconv.ErrSyntax", Rows.laid_strconv_ErrSyntax), ("loop.example/g00843/impl.opNames", Rows.laid_loop_example_g00843_impl_opNames), ("unicode/utf8.first", Rows.laid_unicode_utf8_first)]
theorem door_met8 (os : Os) (args : Array Value) : laidMetH Tryd.prog lst8 ((World.laidAll Tryd.prog os lst8).forCall (fun _ _ => 0) ⟨#[], args, []⟩).memory := by
  rw [MakeChecks.laidMetH_plain _ _ _ (by kernel_rfl)]
  exact laidMet_laidAll args (by kernel_rfl) (by kernel_rfl)
theorem tab_of8 {W : World} (h : laidMetH Tryd.prog lst8 W) : Tab W := by
  rw [MakeChecks.laidMetH_plain _ _ _ (by kernel_rfl)] at h
  obtain ⟨ps, ⟨g0, t0, cs0, f0, p0, q0, hg2, ht2, hv2, hd2, _, _⟩, _⟩ := h.tail.tail
  obtain rfl := Option.some.inj (gPow.symm.trans hg2)
  obtain rfl := Option.some.inj (tPow.symm.trans ht2)
  show Lib.TabIs _ _ _ _ _
  unfold Lib.TabIs
  rw [hv2, ← Lib.cells_of_tab (k := .u64) (zs := Lib.pow10Tab) Tryd.underlying105 Tryd.underlying64 (by kernel_rfl) (by kernel_rfl) hd2]
theorem nms_of8 {W : World} (h : laidMetH Tryd.prog lst8 W) : Nms W := by
  rw [MakeChecks.laidMetH_plain _ _ _ (by kernel_rfl)] at h
  obtain ⟨ps, ⟨g0, t0, cs0, f0, p0, q0, hg2, ht2, hv2, hd2, _, _⟩, _⟩ := h.tail.tail.tail.tail.tail.tail
  obtain rfl := Option.some.inj (gNms.symm.trans hg2)
  obtain rfl := Option.some.inj (tNms.symm.trans ht2)
  rw [opN_laid] at hd2
  unfold Nms
  rw [hv2, ← cells_of_strs (zs := opN) Tryd.underlying52 Tryd.underlying9 (by kernel_rfl) (by kernel_rfl) hd2]
theorem gES : Tryd.prog.globalNamed "strconv.ErrSyntax" = some 2 := by kernel_rfl
theorem tES : (Tryd.prog.globals[2]?).map (·.type) = some 73 := by kernel_rfl
theorem starES : "*" ++ "errors.errorString" = "*errors.errorString" := by decide
theorem rowES (u : TypeId) (h : Tryd.prog.typeName? 3 u = some "*errors.errorString") : u = 117 :=
  typeName_ptr_named (nm := "errors.errorString") (by rw [starES]; kernel_rfl) (by kernel_rfl) (by decide) u (by rw [starES]; exact h)
theorem cES : Tryd.prog.cellsOf 119 = 1 := by kernel_rfl
theorem cStr : Tryd.prog.cellsOf 9 = 1 := by kernel_rfl
theorem err_of8 {W : World} (h : laidMetH Tryd.prog lst8 W) : Err W := by
  rw [MakeChecks.laidMetH_plain _ _ _ (by kernel_rfl)] at h
  obtain ⟨a0, s0, hv0, -, -, -⟩ := laid_sentinel h.tail.tail.tail.tail.tail gES tES Tryd.underlying73 rowES Tryd.underlying117 Tryd.underlying119 rfl rfl Tryd.underlying9 cES cStr
  exact ⟨_, _, hv0⟩
theorem ev_of8 {W : World} (h : laidMetH Tryd.prog lst8 W) : Ev W := ⟨tab_of8 h, nms_of8 h, err_of8 h⟩
end Go.Proofs.YtlahpnihnpmgoaaDoor
