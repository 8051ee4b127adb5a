/- The walk of the law FnExactChecksum through its contracts. FnExactChecksum returns true for all arguments. No conditions. -/
import Derived.Test.YtpgmkcnpbhalmaaSa
namespace Go.Proofs.Ytpgmkcnpbhalmaa
open Go.RowKit
set_option linter.unusedVariables false
set_option linter.unusedSimpArgs false

set_option maxHeartbeats 4000000 in
theorem walk_FnExactChecksum (p : ByteArray) (w : World) (hsp : p.size ≤ maxLen) :
    Calls Try.prog 5 #[.string p] w fun e w' => e = .returned (.bool true) ∧ Below w.heap.size w w' := by
  obtain ⟨lp, rfl⟩ : ∃ l : List UInt8, p = ⟨l.toArray⟩ := ⟨p.data.toList, by cases p; simp⟩
  by_cases hnp : lp.length ≤ 1048576
  rotate_left
  · have hzp : (1048576 : Int) < (lp.length : Int) := by omega
    go_enter Try.func5, Try.ntmps5
    go_wp2
    go_ret
    exact ⟨rfl, Below.refl _ _⟩
  have hzp : ¬ (1048576 : Int) < (lp.length : Int) := by omega
  have S0 := Sep.start w
  go_enter Try.func5, Try.ntmps5
  go_wp2_with fail
  refine (s_Checksum_any lp _ (by omega)).mono ?_
  rintro e w1 ⟨rfl, hb1⟩
  have S1 := S0.below hb1
  try simp only [List.nil_append, List.cons_append, List.set_cons_zero, List.set_cons_succ] at S1
  clear hb1
  go_wp2_with fail
  refine (i_Checksum_any lp _ (by omega)).mono ?_
  rintro e w2 ⟨rfl, hb2⟩
  have S2 := S1.below hb2
  try simp only [List.nil_append, List.cons_append, List.set_cons_zero, List.set_cons_succ] at S2
  clear S1
  clear hb2
  go_wp2
  go_ret
  exact ⟨rfl, S2.bel⟩
end Go.Proofs.Ytpgmkcnpbhalmaa
