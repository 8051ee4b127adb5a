/- The walk of the law FnExactReachedBy through its contracts. FnExactReachedBy returns true for all arguments. No conditions. -/
import Derived.Test.YtlahpnihnpmgoaaRg2
import Derived.Test.YtlahpnihnpmgoaaMkInstruction
import Derived.Test.YtlahpnihnpmgoaaOpInstruction
namespace Go.Proofs.Ytlahpnihnpmgoaa
open Go.RowKit
set_option linter.unusedVariables false
set_option linter.unusedSimpArgs false

set_option maxHeartbeats 4000000 in
theorem walk_FnExactReachedBy (Aps : Option Addr) (nps cps : Nat) (ps : List RInstruction) (w : World) (rAps : Rd w 4 Aps nps (J cInstruction ps)) (hmps : nps ≤ maxLen) (_ : ∀ x ∈ ps, wfInstruction x) :
    Calls Try.prog 3 #[.slice Aps nps cps] w fun e w' => e = .returned (.bool true) ∧ Below w.heap.size w w' := by
  have hlps := rAps.lenS posInstruction cInstruction_len
  unfold maxLen at hmps
  by_cases hnps : nps ≤ 1048576
  rotate_left
  · go_enter Try.func3, Try.ntmps3
    go_wp2_with fail
    refine (szInstructionS_eq Aps nps cps _ hmps (-1) (if_neg hnps)).mono ?_
    rintro e w1 ⟨rfl, rfl⟩
    go_wp2
    go_ret
    exact ⟨rfl, Below.refl _ _⟩
  have hzps : ¬ (1048576 : Int) < (nps : Int) := by omega
  have HLps := Lib.hid hlps
  clear hlps
  obtain ⟨o, ho, hol⟩ := rl_exists ps
  have HO := Lib.hid ho
  have hlen : o.length ≤ 1048576 := by omega
  clear ho
  have S0 := Sep.start w
  go_enter Try.func3, Try.ntmps3
  go_wp2_with fail
  refine (szInstructionS_eq Aps nps cps _ hmps _ (if_pos hnps)).mono ?_
  rintro e w0 ⟨rfl, rfl⟩
  have hszps : ¬ ((1048576 : Int) - (nps : Int) < 0) := by omega
  go_wp2_with fail
  refine (toInstructionS_any Aps nps cps ps _ (rAps.sep S0) (by omega)).mono ?_
  rintro e w1 ⟨A1, c1, rfl, ho1, hb1⟩
  have S1 := S0.new hb1 ho1
  try simp only [List.nil_append, List.cons_append, List.set_cons_zero, List.set_cons_succ] at S1
  clear ho1 hb1
  go_wp2_with fail
  refine (s_ReachedBy_o HO.out A1 nps c1 ps _ (S1.rd 0 rfl) (by omega)).mono ?_
  rintro e w2 ⟨B2_0, d2_0, rfl, ho2_0, hb2⟩
  have S2 := S1.new hb2 ho2_0
  try simp only [List.nil_append, List.cons_append, List.set_cons_zero, List.set_cons_succ] at S2
  clear S1
  clear ho2_0 hb2
  go_wp2_with fail
  refine (toInstructionS_any Aps nps cps ps _ (rAps.sep S2) (by omega)).mono ?_
  rintro e w3 ⟨A3, c3, rfl, ho3, hb3⟩
  have S3 := S2.new hb3 ho3
  try simp only [List.nil_append, List.cons_append, List.set_cons_zero, List.set_cons_succ] at S3
  clear S2
  clear ho3 hb3
  go_wp2_with fail
  refine (i_ReachedBy_o HO.out A3 nps c3 ps _ (S3.rd 2 rfl) (by omega)).mono ?_
  rintro e w4 ⟨B4_0, d4_0, rfl, ho4_0, hb4⟩
  have S4 := S3.new hb4 ho4_0
  try simp only [List.nil_append, List.cons_append, List.set_cons_zero, List.set_cons_succ] at S4
  clear S3
  clear ho4_0 hb4
  go_wp2_with fail
  refine (eqIntS_same B4_0 B2_0 (o).length d4_0 d2_0 (o) _ (S4.rd 3 rfl) (S4.rd 1 rfl) (by omega)).mono ?_
  rintro e w5 ⟨rfl, hb5⟩
  have S5 := S4.below hb5
  try simp only [List.nil_append, List.cons_append, List.set_cons_zero, List.set_cons_succ] at S5
  clear S4
  clear hb5
  go_wp2_with fail
  refine (toInstructionS_any Aps nps cps ps _ (rAps.sep S5) (by omega)).mono ?_
  rintro e w6 ⟨A6, c6, rfl, ho6, hb6⟩
  have S6 := S5.new hb6 ho6
  try simp only [List.nil_append, List.cons_append, List.set_cons_zero, List.set_cons_succ] at S6
  clear S5
  clear ho6 hb6
  go_wp2_with fail
  refine (eqInstructionS_same A3 A6 nps c3 c6 ps _ (S6.rd 2 rfl) (S6.rd 4 rfl) (by omega)).mono ?_
  rintro e w7 ⟨rfl, hb7⟩
  have S7 := S6.below hb7
  try simp only [List.nil_append, List.cons_append, List.set_cons_zero, List.set_cons_succ] at S7
  clear S6
  clear hb7
  go_wp2_with fail
  refine (markInstructionS_any A3 nps c3 _ ps 1 _ (S7.own 2 _ rfl) (by omega) (by omega) (by omega)).mono ?_
  rintro e w8 ⟨rfl, ho8, hg8⟩
  have S8 := S7.write 2 rfl hg8 _ ho8
  try simp only [List.nil_append, List.cons_append, List.set_cons_zero, List.set_cons_succ] at S8
  clear S7
  clear ho8 hg8
  go_wp2_with fail
  refine (eqIntS_same B4_0 B2_0 (o).length d4_0 d2_0 (o) _ (S8.rd 3 rfl) (S8.rd 1 rfl) (by omega)).mono ?_
  rintro e w9 ⟨rfl, hb9⟩
  have S9 := S8.below hb9
  try simp only [List.nil_append, List.cons_append, List.set_cons_zero, List.set_cons_succ] at S9
  clear S8
  clear hb9
  go_wp2_with fail
  refine (markIntS_any B4_0 (o).length d4_0 _ (o) 1 _ (S9.own 3 _ rfl) (by omega) (by omega) (by omega)).mono ?_
  rintro e w10 ⟨rfl, ho10, hg10⟩
  have S10 := S9.write 3 rfl hg10 _ ho10
  try simp only [List.nil_append, List.cons_append, List.set_cons_zero, List.set_cons_succ] at S10
  clear S9
  clear ho10 hg10
  go_wp2_with fail
  refine (heldIntS_marks B4_0 (o).length d4_0 1 _ (S10.rd 3 rfl) (by omega) (by omega) (by omega)).mono ?_
  rintro e w11 ⟨rfl, hb11⟩
  have S11 := S10.below hb11
  try simp only [List.nil_append, List.cons_append, List.set_cons_zero, List.set_cons_succ] at S11
  clear S10
  clear hb11
  go_wp2_with fail
  refine (toInstructionS_any Aps nps cps ps _ (rAps.sep S11) (by omega)).mono ?_
  rintro e w12 ⟨A12, c12, rfl, ho12, hb12⟩
  have S12 := S11.new hb12 ho12
  try simp only [List.nil_append, List.cons_append, List.set_cons_zero, List.set_cons_succ] at S12
  clear S11
  clear ho12 hb12
  go_wp2_with fail
  refine (i_ReachedBy_o HO.out A12 nps c12 ps _ (S12.rd 5 rfl) (by omega)).mono ?_
  rintro e w13 ⟨B13_0, d13_0, rfl, ho13_0, hb13⟩
  have S13 := S12.new hb13 ho13_0
  try simp only [List.nil_append, List.cons_append, List.set_cons_zero, List.set_cons_succ] at S13
  clear S12
  clear ho13_0 hb13
  go_wp2_with fail
  refine (eqIntS_same B13_0 B2_0 (o).length d13_0 d2_0 (o) _ (S13.rd 6 rfl) (S13.rd 1 rfl) (by omega)).mono ?_
  rintro e w14 ⟨rfl, hb14⟩
  have S14 := S13.below hb14
  try simp only [List.nil_append, List.cons_append, List.set_cons_zero, List.set_cons_succ] at S14
  clear S13
  clear hb14
  go_wp2_with fail
  refine (heldIntS_marks B4_0 (o).length d4_0 1 _ (S14.rd 3 rfl) (by omega) (by omega) (by omega)).mono ?_
  rintro e w15 ⟨rfl, hb15⟩
  have S15 := S14.below hb15
  try simp only [List.nil_append, List.cons_append, List.set_cons_zero, List.set_cons_succ] at S15
  clear S14
  clear hb15
  go_wp2
  go_ret
  exact ⟨rfl, S15.bel⟩
end Go.Proofs.Ytlahpnihnpmgoaa
