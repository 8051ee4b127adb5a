/- What the row's condition on five listed package-level variables gives: the table of powers of ten, and the error of a text that is no number; and that the heap that the program's own start leaves meets it. No conditions. -/
import Derived.Test.YtppnmpkefchknaaDoorLaid
import Derived.Test.YtppnmpkefchknaaDoorPc
import Derived.Stop.LaidErr
namespace Go.Proofs.YtppnmpkefchknaaDoor
open Go.ChangeShapes Go.WideShapes Go.ChangeAt Go.RowKit
set_option linter.unusedVariables false
set_option linter.unusedSimpArgs false

def lst5 : List (String × DataW Unit) := [("math/bits.deBruijn32tab", Rows.laid_math_bits_deBruijn32tab), ("math/bits.deBruijn64tab", Rows.laid_math_bits_deBruijn64tab), ("internal/strconv.uint64pow10", Rows.laid_internal_strconv_uint64pow10), ("strconv.ErrRange", Rows.laid_strconv_ErrRange), ("strconv.ErrSyntax", Rows.laid_strconv_ErrSyntax)]
theorem door_met5 (os : Os) (args : Array Value) : laidMetH Tryd.prog lst5 ((World.doorLaid Tryd.prog 400 os).forCall (fun _ _ => 0) ⟨#[], args, []⟩).memory :=
  laidMetH_of_parts3 (fuel := 8) (laidMet_of_run' 8 (by kernel_rfl) (by kernel_rfl)) (by kernel_rfl) (by kernel_rfl)
theorem tab_of5 {W : World} (h : laidMetH Tryd.prog lst5 W) : Tab W := by
  rw [MakeChecks.laidMetH_plain _ _ _ (by kernel_rfl)] at h
  obtain ⟨ps, ⟨g0, t0, cs0, f0, p0, q0, hg2, ht2, hv2, hd2, _, _⟩, _⟩ := h.tail.tail
  obtain rfl := Option.some.inj (gPow.symm.trans hg2)
  obtain rfl := Option.some.inj (tPow.symm.trans ht2)
  show Lib.TabIs _ _ _ _ _
  unfold Lib.TabIs
  rw [hv2, ← Lib.cells_of_tab (k := .u64) (zs := Lib.pow10Tab) Tryd.underlying78 Tryd.underlying33 (by kernel_rfl) (by kernel_rfl) hd2]
theorem gES : Tryd.prog.globalNamed "strconv.ErrSyntax" = some 0 := by kernel_rfl
theorem tES : (Tryd.prog.globals[0]?).map (·.type) = some 45 := by kernel_rfl
theorem starES : "*" ++ "errors.errorString" = "*errors.errorString" := by decide
theorem rowES (u : TypeId) (h : Tryd.prog.typeName? 3 u = some "*errors.errorString") : u = 85 :=
  typeName_ptr_named (nm := "errors.errorString") (by rw [starES]; kernel_rfl) (by kernel_rfl) (by decide) u (by rw [starES]; exact h)
theorem cES : Tryd.prog.cellsOf 87 = 1 := by kernel_rfl
theorem cStr : Tryd.prog.cellsOf 9 = 1 := by kernel_rfl
theorem err_of5 {W : World} (h : laidMetH Tryd.prog lst5 W) : Err W := by
  rw [MakeChecks.laidMetH_plain _ _ _ (by kernel_rfl)] at h
  obtain ⟨a0, s0, hv0, -, -, -⟩ := laid_sentinel h.tail.tail.tail.tail gES tES Tryd.underlying45 rowES Tryd.underlying85 Tryd.underlying87 rfl rfl Tryd.underlying9 cES cStr
  exact ⟨_, _, hv0⟩
end Go.Proofs.YtppnmpkefchknaaDoor
