/- Contracts of the small helpers of laws: vBig, vInts. Lengths at most 2^52. -/
import Derived.Test.YtppnmpkefchknaaDoorInts
namespace Go.Proofs.YtppnmpkefchknaaDoor
open Go.RowKit
set_option linter.unusedVariables false
set_option linter.unusedSimpArgs false

set_option maxHeartbeats 400000 in
theorem vBig_eq (A : Option Addr) (n c : Nat) (w : World) (hn : n ≤ 9223372036854775807) (r : Bool) (hr : decide (65536 < n) = r) :
    Calls Tryd.prog 4 #[.slice A n c] w fun e w' => e = .returned (.bool r) ∧ w = w' := by
  have HR := Lib.hid hr
  clear hr
  by_cases h : 65536 < n
  · have h1 : (65536 : Int) < (n : Int) := by omega
    go_enter Tryd.func4, Tryd.ntmps4
    go_wp2
    go_ret
    exact ⟨ret_bool (by rw [← HR.out]; simp [h]), rfl⟩
  · have h1 : ¬ (65536 : Int) < (n : Int) := by omega
    go_enter Tryd.func4, Tryd.ntmps4
    go_wp2
    go_ret
    exact ⟨ret_bool (by rw [← HR.out]; simp [h]), rfl⟩

end Go.Proofs.YtppnmpkefchknaaDoor
