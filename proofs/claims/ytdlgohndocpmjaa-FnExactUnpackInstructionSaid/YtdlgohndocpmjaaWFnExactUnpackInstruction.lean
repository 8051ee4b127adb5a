/- The walk of the law FnExactUnpackInstruction through its contracts. FnExactUnpackInstruction returns true for every number. No conditions. -/
import Derived.Test.YtdlgohndocpmjaaGb
namespace Go.Proofs.Ytdlgohndocpmjaa
open Go.RowKit
set_option linter.unusedVariables false
set_option linter.unusedSimpArgs false

set_option maxHeartbeats 1000000 in
theorem walk_FnExactUnpackInstruction (n : Int) (w : World) (_ : (Lit.int .i64 n).wf = true) :
    Calls Try.prog 5 #[.int .i64 n] w fun e w' => e = .returned (.bool true) ∧ Below w.heap.size w w' := by
  go_enter Try.func5, Try.ntmps5
  go_wp2_with fail
  refine (s_UnpackInstruction_any _ _).mono ?_
  rintro e w1 ⟨rfl, hb1⟩
  go_wp2_with fail
  refine (i_UnpackInstruction_any _ _).mono ?_
  rintro e w2 ⟨rfl, hb2⟩
  have B1 := (Box.new w1 _ _).keep hb2
  have C1 := B1.cell
  have Z1 := B1.lt
  go_wp2_with fail
  refine (eqInstruction_same _ _ _ _ _).mono ?_
  rintro e w3 ⟨rfl, hb3⟩
  go_wp2
  go_ret
  exact ⟨rfl, below_next (below_next (below_next (below_next hb1 (below_alloc _ _)) hb2) (below_alloc _ _)) hb3⟩
end Go.Proofs.Ytdlgohndocpmjaa
