/- Contracts of inside and l1In, for a seat without lists of ints. No conditions. -/
import Derived.Test.YtlahpnihnpmgoaaDoorRows
import Derived.Test.YtlahpnihnpmgoaaDoorMem
namespace Go.Proofs.YtlahpnihnpmgoaaDoor
open Go.RowKit
set_option linter.unusedVariables false
set_option linter.unusedSimpArgs false

/-- a number in a range, as a Bool -/
def inB (x a b : Int) : Bool := decide (a ≤ x) && decide (x ≤ b)
theorem inB_iff {x a b : Int} : inB x a b = true ↔ a ≤ x ∧ x ≤ b := by simp [inB]

set_option maxHeartbeats 400000 in
theorem inside_any (x a b : Int) (w : World) :
    Calls Tryd.prog 36 #[.int .i64 x, .int .i64 a, .int .i64 b] w fun e w' => e = .returned (.bool (inB x a b)) ∧ w = w' := by
  go_enter Tryd.func36, Tryd.ntmps36
  go_wp2
  all_goals go_ret
  all_goals refine ⟨ret_bool ?_, rfl⟩
  all_goals (rw [Bool.eq_iff_iff]; simp [inB]; omega)

set_option maxHeartbeats 400000 in
theorem l1In_any (x a b : Int) (w : World) :
    Calls Tryd.prog 41 #[.int .i64 x, .int .i64 a, .int .i64 b] w fun e w' => e = .returned (.bool (inB x a b)) ∧ w = w' := by
  go_enter Tryd.func41, Tryd.ntmps41
  go_wp2
  all_goals go_ret
  all_goals refine ⟨ret_bool ?_, rfl⟩
  all_goals (rw [Bool.eq_iff_iff]; simp [inB]; omega)
theorem inside_eq {x a b : Int} {r : Bool} (h : inB x a b = r) (w : World) :
    Calls Tryd.prog 36 #[.int .i64 x, .int .i64 a, .int .i64 b] w fun e w' => e = .returned (.bool r) ∧ w = w' := by subst h; exact inside_any _ _ _ _
theorem l1In_eq {x a b : Int} {r : Bool} (h : inB x a b = r) (w : World) :
    Calls Tryd.prog 41 #[.int .i64 x, .int .i64 a, .int .i64 b] w fun e w' => e = .returned (.bool r) ∧ w = w' := by subst h; exact l1In_any _ _ _ _


def selI (b : Bool) (x : Int) : Int := if b then x else 0
end Go.Proofs.YtlahpnihnpmgoaaDoor
