/- The walk of the law FnExactLessString through its contracts. FnExactLessString returns true for all arguments. No conditions. -/
import Derived.Test.YtpgmkcnpbhalmaaSa
namespace Go.Proofs.Ytpgmkcnpbhalmaa
open Go.RowKit
set_option linter.unusedVariables false
set_option linter.unusedSimpArgs false

set_option maxHeartbeats 4000000 in
theorem walk_FnExactLessString (p : ByteArray) (q : ByteArray) (w : World) (hsp : p.size ≤ maxLen) (hsq : q.size ≤ maxLen) :
    Calls Try.prog 4 #[.string p, .string q] w fun e w' => e = .returned (.bool true) ∧ Below w.heap.size w w' := by
  obtain ⟨lp, rfl⟩ : ∃ l : List UInt8, p = ⟨l.toArray⟩ := ⟨p.data.toList, by cases p; simp⟩
  by_cases hnp : lp.length ≤ 1048576
  rotate_left
  · have hzp : (1048576 : Int) < (lp.length : Int) := by omega
    go_enter Try.func4, Try.ntmps4
    go_wp2
    go_ret
    exact ⟨rfl, Below.refl _ _⟩
  have hzp : ¬ (1048576 : Int) < (lp.length : Int) := by omega
  obtain ⟨lq, rfl⟩ : ∃ l : List UInt8, q = ⟨l.toArray⟩ := ⟨q.data.toList, by cases q; simp⟩
  by_cases hnq : lq.length ≤ 1048576
  rotate_left
  · have hzq : (1048576 : Int) < (lq.length : Int) := by omega
    go_enter Try.func4, Try.ntmps4
    go_wp2
    go_ret
    exact ⟨rfl, Below.refl _ _⟩
  have hzq : ¬ (1048576 : Int) < (lq.length : Int) := by omega
  have S0 := Sep.start w
  go_enter Try.func4, Try.ntmps4
  go_wp2_with fail
  refine (s_LessString_any lp lq _ (by omega) (by omega)).mono ?_
  rintro e w1 ⟨rfl, hb1⟩
  have S1 := S0.below hb1
  try simp only [List.nil_append, List.cons_append, List.set_cons_zero, List.set_cons_succ] at S1
  clear hb1
  go_wp2_with fail
  refine (i_LessString_any lp lq _ (by omega) (by omega)).mono ?_
  rintro e w2 ⟨rfl, hb2⟩
  have S2 := S1.below hb2
  try simp only [List.nil_append, List.cons_append, List.set_cons_zero, List.set_cons_succ] at S2
  clear S1
  clear hb2
  go_wp2
  go_ret
  exact ⟨rfl, S2.bel⟩
end Go.Proofs.Ytpgmkcnpbhalmaa
