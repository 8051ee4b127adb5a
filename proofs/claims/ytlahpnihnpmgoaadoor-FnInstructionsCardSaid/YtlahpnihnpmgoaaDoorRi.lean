/- Contracts of the small helpers of laws: rBig, rInts, rSum. Lengths at most 2^52. -/
import Derived.Test.YtlahpnihnpmgoaaDoorInts
namespace Go.Proofs.YtlahpnihnpmgoaaDoor
open Go.RowKit
set_option linter.unusedVariables false
set_option linter.unusedSimpArgs false

set_option maxHeartbeats 400000 in
theorem rBig_eq (A : Option Addr) (n c : Nat) (w : World) (hn : n ≤ 9223372036854775807) (r : Bool) (hr : decide (65536 < n) = r) :
    Calls Tryd.prog 12 #[.slice A n c] w fun e w' => e = .returned (.bool r) ∧ w = w' := by
  have HR := Lib.hid hr
  clear hr
  by_cases h : 65536 < n
  · have h1 : (65536 : Int) < (n : Int) := by omega
    go_enter Tryd.func12, Tryd.ntmps12
    go_wp2
    go_ret
    exact ⟨ret_bool (by rw [← HR.out]; simp [h]), rfl⟩
  · have h1 : ¬ (65536 : Int) < (n : Int) := by omega
    go_enter Tryd.func12, Tryd.ntmps12
    go_wp2
    go_ret
    exact ⟨ret_bool (by rw [← HR.out]; simp [h]), rfl⟩

theorem sum_bd : ∀ {l : List Int} {k : Nat}, (∀ x ∈ l, 0 ≤ x ∧ x ≤ 1000000) → 0 ≤ (l.take k).sum ∧ (l.take k).sum ≤ 1000000 * (l.take k).length
  | [], k, _ => by simp
  | x :: l, 0, _ => by simp
  | x :: l, k + 1, h => by
    have h1 := sum_bd (l := l) (k := k) (fun y hy => h y (List.mem_cons_of_mem _ hy))
    have h2 := h x (List.mem_cons_self ..)
    simp only [List.take_succ_cons, List.sum_cons, List.length_cons]
    omega
end Go.Proofs.YtlahpnihnpmgoaaDoor
