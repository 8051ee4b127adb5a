/- The walk of the law FnExactSplitString through its contracts. FnExactSplitString returns true for all arguments. No conditions. -/
import Derived.Test.YtpgmkcnpbhalmaaSp
namespace Go.Proofs.Ytpgmkcnpbhalmaa
open Go.RowKit
set_option linter.unusedVariables false
set_option linter.unusedSimpArgs false

set_option maxHeartbeats 4000000 in
theorem walk_FnExactSplitString (p : ByteArray) (q : ByteArray) (w : World) (hsp : p.size ≤ maxLen) (hsq : q.size ≤ maxLen) :
    Calls Try.prog 6 #[.string p, .string q] w fun e w' => e = .returned (.bool true) ∧ Below w.heap.size w w' := by
  obtain ⟨lp, rfl⟩ : ∃ l : List UInt8, p = ⟨l.toArray⟩ := ⟨p.data.toList, by cases p; simp⟩
  by_cases hnp : lp.length ≤ 1048576
  rotate_left
  · have hzp : (1048576 : Int) < (lp.length : Int) := by omega
    go_enter Try.func6, Try.ntmps6
    go_wp2
    go_ret
    exact ⟨rfl, Below.refl _ _⟩
  have hzp : ¬ (1048576 : Int) < (lp.length : Int) := by omega
  obtain ⟨lq, rfl⟩ : ∃ l : List UInt8, q = ⟨l.toArray⟩ := ⟨q.data.toList, by cases q; simp⟩
  by_cases hnq : lq.length ≤ 1048576
  rotate_left
  · have hzq : (1048576 : Int) < (lq.length : Int) := by omega
    go_enter Try.func6, Try.ntmps6
    go_wp2
    go_ret
    exact ⟨rfl, Below.refl _ _⟩
  have hzq : ¬ (1048576 : Int) < (lq.length : Int) := by omega
  have hlen : (selT (splOk lp lq) (splR lp lq)).length ≤ 1048576 := selT_len lp lq
  have S0 := Sep.start w
  go_enter Try.func6, Try.ntmps6
  go_wp2_with fail
  refine (s_SplitString_any lp lq _ (by omega) (by omega)).mono ?_
  rintro e w1 ⟨B1_0, d1_0, rfl, ho1_0, hb1⟩
  have S1 := S0.new hb1 ho1_0
  try simp only [List.nil_append, List.cons_append, List.set_cons_zero, List.set_cons_succ] at S1
  clear ho1_0 hb1
  go_wp2_with fail
  refine (i_SplitString_any lp lq _ (by omega) (by omega)).mono ?_
  rintro e w2 ⟨B2_0, d2_0, rfl, ho2_0, hb2⟩
  have S2 := S1.new hb2 ho2_0
  try simp only [List.nil_append, List.cons_append, List.set_cons_zero, List.set_cons_succ] at S2
  clear S1
  clear ho2_0 hb2
  go_wp2_with fail
  refine (eqStringS_same B2_0 B1_0 (selT (splOk lp lq) (splR lp lq)).length d2_0 d1_0 (selT (splOk lp lq) (splR lp lq)) _ (S2.rd 1 rfl) (S2.rd 0 rfl) (by omega)).mono ?_
  rintro e w3 ⟨rfl, hb3⟩
  have S3 := S2.below hb3
  try simp only [List.nil_append, List.cons_append, List.set_cons_zero, List.set_cons_succ] at S3
  clear S2
  clear hb3
  go_wp2_with fail
  refine (markStringS_any B2_0 (selT (splOk lp lq) (splR lp lq)).length d2_0 _ (selT (splOk lp lq) (splR lp lq)) 1 _ (S3.own 1 _ rfl) (by omega) (by omega) (by omega)).mono ?_
  rintro e w4 ⟨rfl, ho4, hg4⟩
  have S4 := S3.write 1 rfl hg4 _ ho4
  try simp only [List.nil_append, List.cons_append, List.set_cons_zero, List.set_cons_succ] at S4
  clear S3
  clear ho4 hg4
  go_wp2_with fail
  refine (heldStringS_marks B2_0 (selT (splOk lp lq) (splR lp lq)).length d2_0 1 _ (S4.rd 1 rfl) (by omega) (by omega) (by omega)).mono ?_
  rintro e w5 ⟨rfl, hb5⟩
  have S5 := S4.below hb5
  try simp only [List.nil_append, List.cons_append, List.set_cons_zero, List.set_cons_succ] at S5
  clear S4
  clear hb5
  go_wp2_with fail
  refine (i_SplitString_any lp lq _ (by omega) (by omega)).mono ?_
  rintro e w6 ⟨B6_0, d6_0, rfl, ho6_0, hb6⟩
  have S6 := S5.new hb6 ho6_0
  try simp only [List.nil_append, List.cons_append, List.set_cons_zero, List.set_cons_succ] at S6
  clear S5
  clear ho6_0 hb6
  go_wp2_with fail
  refine (eqStringS_same B6_0 B1_0 (selT (splOk lp lq) (splR lp lq)).length d6_0 d1_0 (selT (splOk lp lq) (splR lp lq)) _ (S6.rd 2 rfl) (S6.rd 0 rfl) (by omega)).mono ?_
  rintro e w7 ⟨rfl, hb7⟩
  have S7 := S6.below hb7
  try simp only [List.nil_append, List.cons_append, List.set_cons_zero, List.set_cons_succ] at S7
  clear S6
  clear hb7
  go_wp2_with fail
  refine (heldStringS_marks B2_0 (selT (splOk lp lq) (splR lp lq)).length d2_0 1 _ (S7.rd 1 rfl) (by omega) (by omega) (by omega)).mono ?_
  rintro e w8 ⟨rfl, hb8⟩
  have S8 := S7.below hb8
  try simp only [List.nil_append, List.cons_append, List.set_cons_zero, List.set_cons_succ] at S8
  clear S7
  clear hb8
  go_wp2
  go_ret
  exact ⟨rfl, S8.bel⟩
end Go.Proofs.Ytpgmkcnpbhalmaa
