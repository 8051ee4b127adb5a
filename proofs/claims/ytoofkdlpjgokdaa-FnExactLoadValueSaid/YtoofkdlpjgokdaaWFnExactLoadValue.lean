/- The walk of the law FnExactLoadValue through its contracts. FnExactLoadValue returns true for all arguments. No conditions. -/
import Derived.Test.YtoofkdlpjgokdaaTd
namespace Go.Proofs.Ytoofkdlpjgokdaa
open Go.RowKit
set_option linter.unusedVariables false
set_option linter.unusedSimpArgs false

set_option maxHeartbeats 4000000 in
theorem walk_FnExactLoadValue (c wi : Int) (s : Bool) (r i : Int) (Ars : Option Addr) (nrs crs : Nat) (rs : List Int) (v : Int) (w : World) (_ : (Lit.int .i64 c).wf = true) (_ : (Lit.int .i64 wi).wf = true) (_ : (Lit.int .i64 r).wf = true) (_ : (Lit.int .i64 i).wf = true) (rArs : Rd w 1 Ars nrs (I rs)) (_ : ∀ x ∈ rs, (Lit.int .i64 x).wf = true) (wfv : (Lit.int .i64 v).wf = true) :
    Calls Try.prog 11 #[trapV c wi s r i, .slice Ars nrs crs, .int .i64 v] w fun e w' => e = .returned (.bool true) ∧ Below w.heap.size w w' := by
  have hlrs := rArs.len
  by_cases hnrs : nrs ≤ 1048576
  rotate_left
  · have hzrs : (1048576 : Int) < (nrs : Int) := by omega
    go_enter Try.func11, Try.ntmps11
    go_wp2
    go_ret
    exact ⟨rfl, below_alloc _ _⟩
  have hzrs : ¬ (1048576 : Int) < (nrs : Int) := by omega
  have HLrs := Lib.hid hlrs
  clear hlrs
  have hlen : (selL (loadOk c wi s r i rs v) (loadL wi r rs v)).length ≤ 1048576 := by have := HLrs.out; unfold selL; split <;> simp [loadL] <;> omega
  have S0 := Sep.start w
  go_enter Try.func11, Try.ntmps11
  have S1 := S0.new (below_alloc _ _) (own_bx _ 23 5 #[.int .i64 c, .int .i64 wi, .bool s, .int .i64 r, .int .i64 i] rfl)
  try simp only [List.nil_append, List.cons_append, List.set_cons_zero, List.set_cons_succ] at S1
  have C0_1 := own_box (S1.own 0 _ rfl)
  have Z0_1 := own_lt (S1.own 0 _ rfl)
  go_wp2_with fail
  refine (toTrap_any c wi s r i _).mono ?_
  rintro e w2 ⟨rfl, hb2⟩
  have S2 := S1.below hb2
  try simp only [List.nil_append, List.cons_append, List.set_cons_zero, List.set_cons_succ] at S2
  clear S1
  have C0_2 := own_box (S2.own 0 _ rfl)
  have Z0_2 := own_lt (S2.own 0 _ rfl)
  clear C0_1 Z0_1
  clear hb2
  go_wp2_with fail
  refine (toIntS_any Ars nrs crs rs _ (rArs.sep S2) (by omega)).mono ?_
  rintro e w3 ⟨A3, c3, rfl, ho3, hb3⟩
  have S3 := S2.new hb3 ho3
  try simp only [List.nil_append, List.cons_append, List.set_cons_zero, List.set_cons_succ] at S3
  clear S2
  have C0_3 := own_box (S3.own 0 _ rfl)
  have Z0_3 := own_lt (S3.own 0 _ rfl)
  clear C0_2 Z0_2
  clear ho3 hb3
  go_wp2_with fail
  refine (s_LoadValue_any c wi s r i A3 nrs c3 rs v _ (S3.rd 1 rfl) (by omega)).mono ?_
  rintro e w4 ⟨B4_0, d4_0, rfl, ho4_0, hb4⟩
  have S4 := S3.new hb4 ho4_0
  try simp only [List.nil_append, List.cons_append, List.set_cons_zero, List.set_cons_succ] at S4
  clear S3
  have C0_4 := own_box (S4.own 0 _ rfl)
  have Z0_4 := own_lt (S4.own 0 _ rfl)
  clear C0_3 Z0_3
  clear ho4_0 hb4
  go_wp2_with fail
  refine (toIntS_any Ars nrs crs rs _ (rArs.sep S4) (by omega)).mono ?_
  rintro e w5 ⟨A5, c5, rfl, ho5, hb5⟩
  have S5 := S4.new hb5 ho5
  try simp only [List.nil_append, List.cons_append, List.set_cons_zero, List.set_cons_succ] at S5
  clear S4
  have C0_5 := own_box (S5.own 0 _ rfl)
  have Z0_5 := own_lt (S5.own 0 _ rfl)
  clear C0_4 Z0_4
  clear ho5 hb5
  go_wp2_with fail
  refine (toTrap_any c wi s r i _).mono ?_
  rintro e w6 ⟨rfl, hb6⟩
  have S6 := S5.below hb6
  try simp only [List.nil_append, List.cons_append, List.set_cons_zero, List.set_cons_succ] at S6
  clear S5
  have C0_6 := own_box (S6.own 0 _ rfl)
  have Z0_6 := own_lt (S6.own 0 _ rfl)
  clear C0_5 Z0_5
  clear hb6
  go_wp2_with fail
  refine (i_LoadValue_any c wi s r i A5 nrs c5 rs v _ (S6.rd 3 rfl) (by omega)).mono ?_
  rintro e w7 ⟨B7_0, d7_0, rfl, ho7_0, hb7⟩
  have S7 := S6.new hb7 ho7_0
  try simp only [List.nil_append, List.cons_append, List.set_cons_zero, List.set_cons_succ] at S7
  clear S6
  have C0_7 := own_box (S7.own 0 _ rfl)
  have Z0_7 := own_lt (S7.own 0 _ rfl)
  clear C0_6 Z0_6
  clear ho7_0 hb7
  go_wp2_with fail
  refine (eqIntS_same B7_0 B4_0 (selL (loadOk c wi s r i rs v) (loadL wi r rs v)).length d7_0 d4_0 (selL (loadOk c wi s r i rs v) (loadL wi r rs v)) _ (S7.rd 4 rfl) (S7.rd 2 rfl) (by omega)).mono ?_
  rintro e w8 ⟨rfl, hb8⟩
  have S8 := S7.below hb8
  try simp only [List.nil_append, List.cons_append, List.set_cons_zero, List.set_cons_succ] at S8
  clear S7
  have C0_8 := own_box (S8.own 0 _ rfl)
  have Z0_8 := own_lt (S8.own 0 _ rfl)
  clear C0_7 Z0_7
  clear hb8
  go_wp2_with fail
  refine (toIntS_any Ars nrs crs rs _ (rArs.sep S8) (by omega)).mono ?_
  rintro e w9 ⟨A9, c9, rfl, ho9, hb9⟩
  have S9 := S8.new hb9 ho9
  try simp only [List.nil_append, List.cons_append, List.set_cons_zero, List.set_cons_succ] at S9
  clear S8
  have C0_9 := own_box (S9.own 0 _ rfl)
  have Z0_9 := own_lt (S9.own 0 _ rfl)
  clear C0_8 Z0_8
  clear ho9 hb9
  go_wp2_with fail
  refine (eqIntS_same A5 A9 nrs c5 c9 rs _ (S9.rd 3 rfl) (S9.rd 5 rfl) (by omega)).mono ?_
  rintro e w10 ⟨rfl, hb10⟩
  have S10 := S9.below hb10
  try simp only [List.nil_append, List.cons_append, List.set_cons_zero, List.set_cons_succ] at S10
  clear S9
  have C0_10 := own_box (S10.own 0 _ rfl)
  have Z0_10 := own_lt (S10.own 0 _ rfl)
  clear C0_9 Z0_9
  clear hb10
  go_wp2_with fail
  refine (markIntS_any A5 nrs c5 _ rs 1 _ (S10.own 3 _ rfl) (by omega) (by omega) (by omega)).mono ?_
  rintro e w11 ⟨rfl, ho11, hg11⟩
  have S11 := S10.write 3 rfl hg11 _ ho11
  try simp only [List.nil_append, List.cons_append, List.set_cons_zero, List.set_cons_succ] at S11
  clear S10
  have C0_11 := own_box (S11.own 0 _ rfl)
  have Z0_11 := own_lt (S11.own 0 _ rfl)
  clear C0_10 Z0_10
  clear ho11 hg11
  go_wp2_with fail
  refine (eqIntS_same B7_0 B4_0 (selL (loadOk c wi s r i rs v) (loadL wi r rs v)).length d7_0 d4_0 (selL (loadOk c wi s r i rs v) (loadL wi r rs v)) _ (S11.rd 4 rfl) (S11.rd 2 rfl) (by omega)).mono ?_
  rintro e w12 ⟨rfl, hb12⟩
  have S12 := S11.below hb12
  try simp only [List.nil_append, List.cons_append, List.set_cons_zero, List.set_cons_succ] at S12
  clear S11
  have C0_12 := own_box (S12.own 0 _ rfl)
  have Z0_12 := own_lt (S12.own 0 _ rfl)
  clear C0_11 Z0_11
  clear hb12
  go_wp2_with fail
  refine (markIntS_any B7_0 (selL (loadOk c wi s r i rs v) (loadL wi r rs v)).length d7_0 _ (selL (loadOk c wi s r i rs v) (loadL wi r rs v)) 1 _ (S12.own 4 _ rfl) (by omega) (by omega) (by omega)).mono ?_
  rintro e w13 ⟨rfl, ho13, hg13⟩
  have S13 := S12.write 4 rfl hg13 _ ho13
  try simp only [List.nil_append, List.cons_append, List.set_cons_zero, List.set_cons_succ] at S13
  clear S12
  have C0_13 := own_box (S13.own 0 _ rfl)
  have Z0_13 := own_lt (S13.own 0 _ rfl)
  clear C0_12 Z0_12
  clear ho13 hg13
  go_wp2_with fail
  refine (heldIntS_marks B7_0 (selL (loadOk c wi s r i rs v) (loadL wi r rs v)).length d7_0 1 _ (S13.rd 4 rfl) (by omega) (by omega) (by omega)).mono ?_
  rintro e w14 ⟨rfl, hb14⟩
  have S14 := S13.below hb14
  try simp only [List.nil_append, List.cons_append, List.set_cons_zero, List.set_cons_succ] at S14
  clear S13
  have C0_14 := own_box (S14.own 0 _ rfl)
  have Z0_14 := own_lt (S14.own 0 _ rfl)
  clear C0_13 Z0_13
  clear hb14
  go_wp2_with fail
  refine (toTrap_any c wi s r i _).mono ?_
  rintro e w15 ⟨rfl, hb15⟩
  have S15 := S14.below hb15
  try simp only [List.nil_append, List.cons_append, List.set_cons_zero, List.set_cons_succ] at S15
  clear S14
  have C0_15 := own_box (S15.own 0 _ rfl)
  have Z0_15 := own_lt (S15.own 0 _ rfl)
  clear C0_14 Z0_14
  clear hb15
  go_wp2_with fail
  refine (toIntS_any Ars nrs crs rs _ (rArs.sep S15) (by omega)).mono ?_
  rintro e w16 ⟨A16, c16, rfl, ho16, hb16⟩
  have S16 := S15.new hb16 ho16
  try simp only [List.nil_append, List.cons_append, List.set_cons_zero, List.set_cons_succ] at S16
  clear S15
  have C0_16 := own_box (S16.own 0 _ rfl)
  have Z0_16 := own_lt (S16.own 0 _ rfl)
  clear C0_15 Z0_15
  clear ho16 hb16
  go_wp2_with fail
  refine (i_LoadValue_any c wi s r i A16 nrs c16 rs v _ (S16.rd 6 rfl) (by omega)).mono ?_
  rintro e w17 ⟨B17_0, d17_0, rfl, ho17_0, hb17⟩
  have S17 := S16.new hb17 ho17_0
  try simp only [List.nil_append, List.cons_append, List.set_cons_zero, List.set_cons_succ] at S17
  clear S16
  have C0_17 := own_box (S17.own 0 _ rfl)
  have Z0_17 := own_lt (S17.own 0 _ rfl)
  clear C0_16 Z0_16
  clear ho17_0 hb17
  go_wp2_with fail
  refine (eqIntS_same B17_0 B4_0 (selL (loadOk c wi s r i rs v) (loadL wi r rs v)).length d17_0 d4_0 (selL (loadOk c wi s r i rs v) (loadL wi r rs v)) _ (S17.rd 7 rfl) (S17.rd 2 rfl) (by omega)).mono ?_
  rintro e w18 ⟨rfl, hb18⟩
  have S18 := S17.below hb18
  try simp only [List.nil_append, List.cons_append, List.set_cons_zero, List.set_cons_succ] at S18
  clear S17
  have C0_18 := own_box (S18.own 0 _ rfl)
  have Z0_18 := own_lt (S18.own 0 _ rfl)
  clear C0_17 Z0_17
  clear hb18
  go_wp2_with fail
  refine (heldIntS_marks B7_0 (selL (loadOk c wi s r i rs v) (loadL wi r rs v)).length d7_0 1 _ (S18.rd 4 rfl) (by omega) (by omega) (by omega)).mono ?_
  rintro e w19 ⟨rfl, hb19⟩
  have S19 := S18.below hb19
  try simp only [List.nil_append, List.cons_append, List.set_cons_zero, List.set_cons_succ] at S19
  clear S18
  have C0_19 := own_box (S19.own 0 _ rfl)
  have Z0_19 := own_lt (S19.own 0 _ rfl)
  clear C0_18 Z0_18
  clear hb19
  go_wp2
  go_ret
  exact ⟨rfl, S19.bel⟩
end Go.Proofs.Ytoofkdlpjgokdaa
