/- The walk of the law FnExactAssemblyText through its contracts. FnExactAssemblyText returns true for every instruction (the card of it, tied to the program). No conditions. -/
import Derived.Test.YtlahpnihnpmgoaaDoorLaid4
import Derived.Test.YtlahpnihnpmgoaaDoorAw
namespace Go.Proofs.YtlahpnihnpmgoaaDoor
open Go.RowKit
set_option linter.unusedVariables false
set_option linter.unusedSimpArgs false

set_option maxHeartbeats 2000000 in
theorem walk_FnExactAssemblyText (o a b n : Int) (w : World) (_ : (Lit.int .i64 o).wf = true) (_ : (Lit.int .i64 a).wf = true) (_ : (Lit.int .i64 b).wf = true) (_ : (Lit.int .i64 n).wf = true) (hL : laidMetH Tryd.prog lst4 w) (_ : w.ShapedOpen Tryd.prog) :
    Calls Tryd.prog 3 #[insV o a b n] w fun e w' => e = .returned (.bool true) ∧ Below w.heap.size w w' := by
  have HT := Lib.hid (tab_of4 hL)
  have HM := Lib.hid (nms_of4 hL)
  clear hL
  obtain ⟨r, hr⟩ : ∃ r, r = insB o a b n := ⟨_, rfl⟩
  obtain ⟨t, ht⟩ : ∃ t, t = selB r (asmL o a b n) := ⟨_, rfl⟩
  have HR := Lib.hid hr.symm
  have HS := Lib.hid ht.symm
  clear hr ht
  go_enter Tryd.func3, Tryd.ntmps3
  go_wp2_with fail
  refine (toInstruction_any _ _ _ _ _).mono ?_
  rintro e w1 ⟨rfl, hb1⟩
  have B1 := Lib.hid ((Box.new w 23 #[.int .i64 o, .int .i64 a, .int .i64 b, .int .i64 n]).keep hb1)
  have HB1 := Lib.hid (below_next (below_alloc w _) hb1)
  clear hb1
  go_wp2_with fail
  refine (s_AssemblyText_eq HR.out _).mono ?_
  rw [HS.out]
  rintro e w2 ⟨rfl, hb2⟩
  have B2 := Lib.hid (B1.out.keep hb2)
  have HB2 := Lib.hid (below_next HB1.out hb2)
  clear hb2 B1 HB1
  have C2 := B2.out.cell
  go_wp2_with fail
  refine (toInstruction_any _ _ _ _ _).mono ?_
  rintro e w3 ⟨rfl, hb3⟩
  have HB3 := Lib.hid (below_next HB2.out hb3)
  clear hb3 HB2
  go_wp2_with fail
  refine (i_AssemblyText_eq HR.out _ (HT.out.keep HB3.out) (HM.out.keep HB3.out)).mono ?_
  rw [HS.out]
  rintro e w4 ⟨rfl, hb4⟩
  have HB4 := Lib.hid (below_next HB3.out hb4)
  clear hb4 HB3
  go_wp2
  go_ret
  exact ⟨rfl, HB4.out⟩
end Go.Proofs.YtlahpnihnpmgoaaDoor
