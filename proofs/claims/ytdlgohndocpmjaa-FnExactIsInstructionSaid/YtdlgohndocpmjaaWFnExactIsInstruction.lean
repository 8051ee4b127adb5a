/- The walk of the law FnExactIsInstruction through its contracts. FnExactIsInstruction returns true for every instruction. No conditions. -/
import Derived.Test.YtdlgohndocpmjaaGa
namespace Go.Proofs.Ytdlgohndocpmjaa
open Go.RowKit
set_option linter.unusedVariables false
set_option linter.unusedSimpArgs false

set_option maxHeartbeats 1000000 in
theorem walk_FnExactIsInstruction (o a b n : Int) (w : World) (_ : (Lit.int .i64 o).wf = true) (_ : (Lit.int .i64 a).wf = true) (_ : (Lit.int .i64 b).wf = true) (_ : (Lit.int .i64 n).wf = true) :
    Calls Try.prog 3 #[insV o a b n] w fun e w' => e = .returned (.bool true) ∧ Below w.heap.size w w' := by
  go_enter Try.func3, Try.ntmps3
  go_wp2_with fail
  refine (toInstruction_any _ _ _ _ _).mono ?_
  rintro e w1 ⟨rfl, hb1⟩
  have B1 := (Box.new w _ _).keep hb1
  go_wp2_with fail
  refine (s_IsInstruction_any _ _ _ _ _).mono ?_
  rintro e w2 ⟨rfl, hb2⟩
  have B2 := B1.keep hb2
  have C2 := B2.cell
  go_wp2_with fail
  refine (toInstruction_any _ _ _ _ _).mono ?_
  rintro e w3 ⟨rfl, hb3⟩
  go_wp2_with fail
  refine (i_IsInstruction_any _ _ _ _ _).mono ?_
  rintro e w4 ⟨rfl, hb4⟩
  go_wp2
  go_ret
  exact ⟨rfl, below_next (below_next (below_next (below_next (below_alloc w _) hb1) hb2) hb3) hb4⟩
end Go.Proofs.Ytdlgohndocpmjaa
