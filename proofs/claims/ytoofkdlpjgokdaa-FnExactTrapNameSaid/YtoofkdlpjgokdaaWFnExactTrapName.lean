/- The walk of the law FnExactTrapName through its contracts. FnExactTrapName returns true for every trap. No conditions. -/
import Derived.Test.YtoofkdlpjgokdaaTb
namespace Go.Proofs.Ytoofkdlpjgokdaa
open Go.RowKit
set_option linter.unusedVariables false
set_option linter.unusedSimpArgs false

set_option maxHeartbeats 1000000 in
theorem walk_FnExactTrapName (c wi : Int) (s : Bool) (r i : Int) (w : World) (_ : (Lit.int .i64 c).wf = true) (_ : (Lit.int .i64 wi).wf = true) (_ : (Lit.int .i64 r).wf = true) (_ : (Lit.int .i64 i).wf = true) :
    Calls Try.prog 5 #[trapV c wi s r i] w fun e w' => e = .returned (.bool true) ∧ Below w.heap.size w w' := by
  go_enter Try.func5, Try.ntmps5
  go_wp2_with fail
  refine (toTrap_any _ _ _ _ _ _).mono ?_
  rintro e w1 ⟨rfl, hb1⟩
  have B1 := (Box.new w _ _).keep hb1
  go_wp2_with fail
  refine (s_TrapName_any _ _ _ _ _ _).mono ?_
  rintro e w2 ⟨rfl, hb2⟩
  have B2 := B1.keep hb2
  have C2 := B2.cell
  go_wp2_with fail
  refine (toTrap_any _ _ _ _ _ _).mono ?_
  rintro e w3 ⟨rfl, hb3⟩
  go_wp2_with fail
  refine (i_TrapName_any _ _ _ _ _ _).mono ?_
  rintro e w4 ⟨rfl, hb4⟩
  go_wp2
  go_ret
  exact ⟨rfl, below_next (below_next (below_next (below_next (below_alloc w _) hb1) hb2) hb3) hb4⟩
end Go.Proofs.Ytoofkdlpjgokdaa
