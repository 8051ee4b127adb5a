/- The walk of the law FnExactStoredValue through its contracts. FnExactStoredValue returns true for all arguments. No conditions. -/
import Derived.Test.YtoofkdlpjgokdaaTd
namespace Go.Proofs.Ytoofkdlpjgokdaa
open Go.RowKit
set_option linter.unusedVariables false
set_option linter.unusedSimpArgs false

set_option maxHeartbeats 4000000 in
theorem walk_FnExactStoredValue (c wi : Int) (s : Bool) (r i : Int) (Ars : Option Addr) (nrs crs : Nat) (rs : List Int) (w : World) (_ : (Lit.int .i64 c).wf = true) (_ : (Lit.int .i64 wi).wf = true) (_ : (Lit.int .i64 r).wf = true) (_ : (Lit.int .i64 i).wf = true) (rArs : Rd w 1 Ars nrs (I rs)) (_ : ∀ x ∈ rs, (Lit.int .i64 x).wf = true) :
    Calls Try.prog 10 #[trapV c wi s r i, .slice Ars nrs crs] w fun e w' => e = .returned (.bool true) ∧ Below w.heap.size w w' := by
  have hlrs := rArs.len
  by_cases hnrs : nrs ≤ 1048576
  rotate_left
  · have hzrs : (1048576 : Int) < (nrs : Int) := by omega
    go_enter Try.func10, Try.ntmps10
    go_wp2
    go_ret
    exact ⟨rfl, below_alloc _ _⟩
  have hzrs : ¬ (1048576 : Int) < (nrs : Int) := by omega
  have HLrs := Lib.hid hlrs
  clear hlrs
  have S0 := Sep.start w
  go_enter Try.func10, Try.ntmps10
  have S1 := S0.new (below_alloc _ _) (own_bx _ 23 5 #[.int .i64 c, .int .i64 wi, .bool s, .int .i64 r, .int .i64 i] rfl)
  try simp only [List.nil_append, List.cons_append, List.set_cons_zero, List.set_cons_succ] at S1
  have C0_1 := own_box (S1.own 0 _ rfl)
  have Z0_1 := own_lt (S1.own 0 _ rfl)
  go_wp2_with fail
  refine (toTrap_any c wi s r i _).mono ?_
  rintro e w2 ⟨rfl, hb2⟩
  have S2 := S1.below hb2
  try simp only [List.nil_append, List.cons_append, List.set_cons_zero, List.set_cons_succ] at S2
  clear S1
  have C0_2 := own_box (S2.own 0 _ rfl)
  have Z0_2 := own_lt (S2.own 0 _ rfl)
  clear C0_1 Z0_1
  clear hb2
  go_wp2_with fail
  refine (toIntS_any Ars nrs crs rs _ (rArs.sep S2) (by omega)).mono ?_
  rintro e w3 ⟨A3, c3, rfl, ho3, hb3⟩
  have S3 := S2.new hb3 ho3
  try simp only [List.nil_append, List.cons_append, List.set_cons_zero, List.set_cons_succ] at S3
  clear S2
  have C0_3 := own_box (S3.own 0 _ rfl)
  have Z0_3 := own_lt (S3.own 0 _ rfl)
  clear C0_2 Z0_2
  clear ho3 hb3
  go_wp2_with fail
  refine (s_StoredValue_any c wi s r i A3 nrs c3 rs _ (S3.rd 1 rfl) (by omega)).mono ?_
  rintro e w4 ⟨rfl, hb4⟩
  have S4 := S3.below hb4
  try simp only [List.nil_append, List.cons_append, List.set_cons_zero, List.set_cons_succ] at S4
  clear S3
  have C0_4 := own_box (S4.own 0 _ rfl)
  have Z0_4 := own_lt (S4.own 0 _ rfl)
  clear C0_3 Z0_3
  clear hb4
  go_wp2_with fail
  refine (toIntS_any Ars nrs crs rs _ (rArs.sep S4) (by omega)).mono ?_
  rintro e w5 ⟨A5, c5, rfl, ho5, hb5⟩
  have S5 := S4.new hb5 ho5
  try simp only [List.nil_append, List.cons_append, List.set_cons_zero, List.set_cons_succ] at S5
  clear S4
  have C0_5 := own_box (S5.own 0 _ rfl)
  have Z0_5 := own_lt (S5.own 0 _ rfl)
  clear C0_4 Z0_4
  clear ho5 hb5
  go_wp2_with fail
  refine (toTrap_any c wi s r i _).mono ?_
  rintro e w6 ⟨rfl, hb6⟩
  have S6 := S5.below hb6
  try simp only [List.nil_append, List.cons_append, List.set_cons_zero, List.set_cons_succ] at S6
  clear S5
  have C0_6 := own_box (S6.own 0 _ rfl)
  have Z0_6 := own_lt (S6.own 0 _ rfl)
  clear C0_5 Z0_5
  clear hb6
  go_wp2_with fail
  refine (i_StoredValue_any c wi s r i A5 nrs c5 rs _ (S6.rd 2 rfl) (by omega)).mono ?_
  rintro e w7 ⟨rfl, hb7⟩
  have S7 := S6.below hb7
  try simp only [List.nil_append, List.cons_append, List.set_cons_zero, List.set_cons_succ] at S7
  clear S6
  have C0_7 := own_box (S7.own 0 _ rfl)
  have Z0_7 := own_lt (S7.own 0 _ rfl)
  clear C0_6 Z0_6
  clear hb7
  go_wp2_with fail
  refine (toIntS_any Ars nrs crs rs _ (rArs.sep S7) (by omega)).mono ?_
  rintro e w8 ⟨A8, c8, rfl, ho8, hb8⟩
  have S8 := S7.new hb8 ho8
  try simp only [List.nil_append, List.cons_append, List.set_cons_zero, List.set_cons_succ] at S8
  clear S7
  have C0_8 := own_box (S8.own 0 _ rfl)
  have Z0_8 := own_lt (S8.own 0 _ rfl)
  clear C0_7 Z0_7
  clear ho8 hb8
  go_wp2_with fail
  refine (eqIntS_same A5 A8 nrs c5 c8 rs _ (S8.rd 2 rfl) (S8.rd 3 rfl) (by omega)).mono ?_
  rintro e w9 ⟨rfl, hb9⟩
  have S9 := S8.below hb9
  try simp only [List.nil_append, List.cons_append, List.set_cons_zero, List.set_cons_succ] at S9
  clear S8
  have C0_9 := own_box (S9.own 0 _ rfl)
  have Z0_9 := own_lt (S9.own 0 _ rfl)
  clear C0_8 Z0_8
  clear hb9
  go_wp2
  go_ret
  exact ⟨rfl, S9.bel⟩
end Go.Proofs.Ytoofkdlpjgokdaa
