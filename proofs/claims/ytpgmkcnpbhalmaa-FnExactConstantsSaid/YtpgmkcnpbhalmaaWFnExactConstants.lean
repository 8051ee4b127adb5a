/- The walk of the law FnExactConstants through its contracts. FnExactConstants returns true. No conditions. -/
import Derived.Test.YtpgmkcnpbhalmaaRows
import Derived.Test.YtpgmkcnpbhalmaaMem
namespace Go.Proofs.Ytpgmkcnpbhalmaa
open Go.RowKit
set_option linter.unusedVariables false
set_option linter.unusedSimpArgs false

set_option maxHeartbeats 4000000 in
theorem walk_FnExactConstants (w : World) :
    Calls Try.prog 3 #[] w fun e w' => e = .returned (.bool true) ∧ Below w.heap.size w w' := by
  go_enter Try.func3, Try.ntmps3
  go_wp2
  go_ret
  exact ⟨rfl, Below.refl _ _⟩
end Go.Proofs.Ytpgmkcnpbhalmaa
