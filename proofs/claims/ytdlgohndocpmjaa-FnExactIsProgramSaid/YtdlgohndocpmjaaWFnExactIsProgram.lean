/- The walk of the law FnExactIsProgram through its contracts. FnExactIsProgram returns true for all arguments. No conditions. -/
import Derived.Test.YtdlgohndocpmjaaPrA
import Derived.Test.YtdlgohndocpmjaaOpInstruction
namespace Go.Proofs.Ytdlgohndocpmjaa
open Go.RowKit
set_option linter.unusedVariables false
set_option linter.unusedSimpArgs false

set_option maxHeartbeats 4000000 in
theorem walk_FnExactIsProgram (Axs : Option Addr) (nxs cxs : Nat) (xs : List RInstruction) (w : World) (rAxs : Rd w 4 Axs nxs (J cInstruction xs)) (hmxs : nxs ≤ maxLen) (_ : ∀ x ∈ xs, wfInstruction x) :
    Calls Try.prog 6 #[.slice Axs nxs cxs] w fun e w' => e = .returned (.bool true) ∧ Below w.heap.size w w' := by
  have hlxs := rAxs.lenS posInstruction cInstruction_len
  unfold maxLen at hmxs
  by_cases hnxs : nxs ≤ 1048576
  rotate_left
  · go_enter Try.func6, Try.ntmps6
    go_wp2_with fail
    refine (szInstructionS_eq Axs nxs cxs _ hmxs (-1) (if_neg hnxs)).mono ?_
    rintro e w1 ⟨rfl, rfl⟩
    go_wp2
    go_ret
    exact ⟨rfl, Below.refl _ _⟩
  have hzxs : ¬ (1048576 : Int) < (nxs : Int) := by omega
  have HLxs := Lib.hid hlxs
  clear hlxs
  have S0 := Sep.start w
  go_enter Try.func6, Try.ntmps6
  go_wp2_with fail
  refine (szInstructionS_eq Axs nxs cxs _ hmxs _ (if_pos hnxs)).mono ?_
  rintro e w0 ⟨rfl, rfl⟩
  have hszxs : ¬ ((1048576 : Int) - (nxs : Int) < 0) := by omega
  go_wp2_with fail
  refine (toInstructionS_any Axs nxs cxs xs _ (rAxs.sep S0) (by omega)).mono ?_
  rintro e w1 ⟨A1, c1, rfl, ho1, hb1⟩
  have S1 := S0.new hb1 ho1
  try simp only [List.nil_append, List.cons_append, List.set_cons_zero, List.set_cons_succ] at S1
  clear ho1 hb1
  go_wp2_with fail
  refine (s_IsProgram_any A1 nxs c1 xs _ (S1.rd 0 rfl) (by omega)).mono ?_
  rintro e w2 ⟨rfl, hb2⟩
  have S2 := S1.below hb2
  try simp only [List.nil_append, List.cons_append, List.set_cons_zero, List.set_cons_succ] at S2
  clear S1
  clear hb2
  go_wp2_with fail
  refine (toInstructionS_any Axs nxs cxs xs _ (rAxs.sep S2) (by omega)).mono ?_
  rintro e w3 ⟨A3, c3, rfl, ho3, hb3⟩
  have S3 := S2.new hb3 ho3
  try simp only [List.nil_append, List.cons_append, List.set_cons_zero, List.set_cons_succ] at S3
  clear S2
  clear ho3 hb3
  go_wp2_with fail
  refine (i_IsProgram_any A3 nxs c3 xs _ (S3.rd 1 rfl) (by omega)).mono ?_
  rintro e w4 ⟨rfl, hb4⟩
  have S4 := S3.below hb4
  try simp only [List.nil_append, List.cons_append, List.set_cons_zero, List.set_cons_succ] at S4
  clear S3
  clear hb4
  go_wp2_with fail
  refine (toInstructionS_any Axs nxs cxs xs _ (rAxs.sep S4) (by omega)).mono ?_
  rintro e w5 ⟨A5, c5, rfl, ho5, hb5⟩
  have S5 := S4.new hb5 ho5
  try simp only [List.nil_append, List.cons_append, List.set_cons_zero, List.set_cons_succ] at S5
  clear S4
  clear ho5 hb5
  go_wp2_with fail
  refine (eqInstructionS_same A3 A5 nxs c3 c5 xs _ (S5.rd 1 rfl) (S5.rd 2 rfl) (by omega)).mono ?_
  rintro e w6 ⟨rfl, hb6⟩
  have S6 := S5.below hb6
  try simp only [List.nil_append, List.cons_append, List.set_cons_zero, List.set_cons_succ] at S6
  clear S5
  clear hb6
  go_wp2
  go_ret
  exact ⟨rfl, S6.bel⟩
end Go.Proofs.Ytdlgohndocpmjaa
