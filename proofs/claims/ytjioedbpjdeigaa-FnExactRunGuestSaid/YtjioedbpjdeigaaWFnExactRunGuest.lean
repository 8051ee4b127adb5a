/- The walk of the law FnExactRunGuest through its contracts. FnExactRunGuest returns true for all arguments. No conditions. -/
import Derived.Test.YtjioedbpjdeigaaRn
import Derived.Test.YtjioedbpjdeigaaMkInstruction
import Derived.Test.YtjioedbpjdeigaaMkReg
import Derived.Deep.RegionHeld3
import Derived.Deep.DrawnRows
import Derived.Deep.CutRange
import Derived.Test.YtjioedbpjdeigaaOpInstruction
import Derived.Test.YtjioedbpjdeigaaOpReg
namespace Go.Proofs.Ytjioedbpjdeigaa
open Go.RowKit
set_option linter.unusedVariables false
set_option linter.unusedSimpArgs false
attribute [local go_sem ↓] Go.wp_at_zero Go.wp_at_succ

set_option maxHeartbeats 16000000 in
set_option maxRecDepth 100000 in
theorem walk_FnExactRunGuest (Ap : Option Addr) (np cp : Nat) (ps : List RInstruction) (A : Option Addr) (n c : Nat) (rs : List Int) (a : Int) (z s : Bool) (most : Int) (w : World) (hp : Rd w 4 Ap np (J cInstruction ps)) (hmp : np ≤ maxLen) (_ : ∀ x ∈ ps, wfInstruction x) (hr : Rd w 1 A n (I rs)) (hm : n ≤ maxLen) (wfmost : (Lit.int .i64 most).wf = true) :
    Calls Try.prog 4 #[.slice Ap np cp, regV A n c a z s, .int .i64 most] w fun e w' => e = .returned (.bool true) ∧ Below w.heap.size w w' := by
  unfold maxLen at hm hmp
  by_cases hnp : np ≤ 1048576
  rotate_left
  · go_enter Try.func4, Try.ntmps4
    go_wp2_with fail
    refine (szInstructionS_eq Ap np cp _ hmp (-1) (if_neg hnp)).mono ?_
    rintro e w1 ⟨rfl, rfl⟩
    go_wp2
    go_ret
    exact ⟨rfl, below_alloc _ _⟩
  by_cases hn : (n : Int) ≤ 1048576 - (np : Int)
  rotate_left
  · have HN := Lib.hid hn
    clear hn
    go_enter Try.func4, Try.ntmps4
    go_wp2_with fail
    refine (szInstructionS_eq Ap np cp _ hmp _ (if_pos hnp)).mono ?_
    rintro e w1 ⟨rfl, rfl⟩
    have hz : ¬ (1048576 : Int) - (np : Int) < 0 := by omega
    go_wp2_with fail
    refine (szRegisters_eq A n c a z s _ _ hm (by omega) (by omega) (-1) (if_neg (Int.not_le.2 HN.out))).mono ?_
    rintro e w1 ⟨rfl, hb⟩
    go_wp2
    go_ret
    exact ⟨rfl, below_next (below_alloc _ _) hb⟩
  have hz : ¬ (1048576 : Int) - (np : Int) < 0 := by omega
  have hz2 : ¬ (1048576 : Int) - (np : Int) - (n : Int) < 0 := by omega
  have hn2 : n ≤ 1048576 := by omega
  have hX : (rnR ps rs a z s most).rs.length ≤ 1048576 := Nat.le_trans (rnR_len ps rs a z s most) (by omega)
  go_enter Try.func4, Try.ntmps4
  have S1 := (Sep.start w).new (below_alloc _ _) (own_bx _ 25 4 #[.slice A n c, .int .i64 a, .bool z, .bool s] rfl)
  try simp only [List.nil_append, List.cons_append, List.set_cons_zero, List.set_cons_succ] at S1
  have HS1 := Lib.hid S1
  clear S1
  have Cg := own_box (HS1.out.own 0 _ rfl)
  have Zg := own_lt (HS1.out.own 0 _ rfl)
  go_wp2_with fail
  refine (szInstructionS_eq Ap np cp _ hmp _ (if_pos hnp)).mono ?_
  rintro e w1 ⟨rfl, rfl⟩
  go_wp2_with fail
  refine (szRegisters_eq A n c a z s _ _ hm (by omega) (by omega) _ (if_pos hn)).mono ?_
  rintro e w2 ⟨rfl, hb2⟩
  have S2 := HS1.out.below hb2
  try simp only [List.nil_append, List.cons_append, List.set_cons_zero, List.set_cons_succ] at S2
  have HS2 := Lib.hid S2
  clear S2
  clear Cg Zg
  have Cg := own_box (HS2.out.own 0 _ rfl)
  have Zg := own_lt (HS2.out.own 0 _ rfl)
  clear HS1
  clear hb2
  go_upto_region 8 with (fail)
  go_cut [8, 9, 10] from 32 to 41 (fun x8 x9 x10 wx => ∃ (g6 : Nat) (A4 A5 A6 : Option Addr) (c4 c5 c6 : Nat), x8 = .pointer (some ⟨g6, 0, none⟩) ∧ x9 = .int .i64 (rnN ps rs a z s most) ∧ x10 = .bool (rnB ps rs a most) ∧ Hid (Sep w wx [bx 25 4 (w.heap.size) [.slice A n c, .int .i64 a, .bool z, .bool s], tsInstruction A4 np c4 ps, ti A5 n c5 rs, ti A6 (rnR ps rs a z s most).rs.length c6 (rnR ps rs a z s most).rs, bx 28 4 g6 [.slice A6 (rnR ps rs a z s most).rs.length c6, .int .i64 (rnR ps rs a z s most).a, .bool (rnR ps rs a z s most).z, .bool (rnR ps rs a z s most).s]]))
  case first =>
    have S3 := (HS2.out).below (Below.drew (Below.refl _ _))
    have Y1_3 := own_lt (S3.own 0 _ rfl)
    simp only [hdrew] at Y1_3
    have dc0 := (own_box (HS2.out.own 0 _ rfl) 0)
    have dc1 := (own_box (HS2.out.own 0 _ rfl) 1)
    have dc2 := (own_box (HS2.out.own 0 _ rfl) 2)
    have dc3 := (own_box (HS2.out.own 0 _ rfl) 3)
    have cc0 := (own_box (S3.own 0 _ rfl) 0)
    have cc1 := (own_box (S3.own 0 _ rfl) 1)
    have cc2 := (own_box (S3.own 0 _ rfl) 2)
    have cc3 := (own_box (S3.own 0 _ rfl) 3)
    have dc0 : (_ : World).cell? ⟨w.heap.size, 0, none⟩ = some (.slice A n c) := dc0
    have cc0 : (_ : World).cell? ⟨w.heap.size, 0, none⟩ = some (.slice A n c) := cc0
    have dc1 : (_ : World).cell? ⟨w.heap.size, 1, none⟩ = some (.int .i64 a) := dc1
    have cc1 : (_ : World).cell? ⟨w.heap.size, 1, none⟩ = some (.int .i64 a) := cc1
    have dc2 : (_ : World).cell? ⟨w.heap.size, 2, none⟩ = some (.bool z) := dc2
    have cc2 : (_ : World).cell? ⟨w.heap.size, 2, none⟩ = some (.bool z) := cc2
    have dc3 : (_ : World).cell? ⟨w.heap.size, 3, none⟩ = some (.bool s) := dc3
    have cc3 : (_ : World).cell? ⟨w.heap.size, 3, none⟩ = some (.bool s) := cc3
    clear Cg
    go_region_held3 (fun w' => w'.cell? ⟨w.heap.size, 0, none⟩ = some (.slice A n c) ∧ w'.cell? ⟨w.heap.size, 1, none⟩ = some (.int .i64 a) ∧ w'.cell? ⟨w.heap.size, 2, none⟩ = some (.bool z) ∧ w'.cell? ⟨w.heap.size, 3, none⟩ = some (.bool s))
      (first | (with_reducible exact ⟨q0, q1, q2, q3⟩) | (with_reducible exact ⟨cc0, cc1, cc2, cc3⟩) | (refine ⟨?_, ?_, ?_, ?_⟩ <;> (repeat (first | (with_reducible exact q0) | (with_reducible exact q1) | (with_reducible exact q2) | (with_reducible exact q3) | (with_reducible exact cc0) | (with_reducible exact cc1) | (with_reducible exact cc2) | (with_reducible exact cc3) | (with_reducible exact dc0) | (with_reducible exact dc1) | (with_reducible exact dc2) | (with_reducible exact dc3) | (with_reducible refine kset (by omega) ?_) | (with_reducible refine kalloc ?_) | (with_reducible refine kdrew ?_))))) (first
      | (go_at_call 10; (first | (have Sa := S3; refine (toInstructionS_any Ap np cp ps _ (hp.keep Sa.bel) hnp).mono ?_) | (have Sa := (S3).new (below_alloc _ _) (own_bx _ 28 4 #[.slice none 0 0, .int .i64 0, .bool false, .bool false] rfl); refine (toInstructionS_any Ap np cp ps _ (hp.keep Sa.bel) hnp).mono ?_)); rintro e w4 ⟨A4, c4, rfl, ho4, hb4⟩; have S4 := Sa.new hb4 ho4; clear Sa; (try clear A90 F90 Y90); (try clear A91 F91 Y91); (try clear A92 F92 Y92); (try clear q0 q1 q2 q3); have q0 : w4.cell? ⟨w.heap.size, 0, none⟩ = some (.slice A n c) := own_box (S4.own 0 _ rfl) 0; have q1 : w4.cell? ⟨w.heap.size, 1, none⟩ = some (.int .i64 a) := own_box (S4.own 0 _ rfl) 1; have q2 : w4.cell? ⟨w.heap.size, 2, none⟩ = some (.bool z) := own_box (S4.own 0 _ rfl) 2; have q3 : w4.cell? ⟨w.heap.size, 3, none⟩ = some (.bool s) := own_box (S4.own 0 _ rfl) 3; have Y1_4 := own_lt (S4.own 0 _ rfl); (first | (have A90 := own_box (S4.own 1 _ rfl); have F90 := own_free (S4.own 1 _ rfl); have Y90 := own_lt (S4.own 1 _ rfl); (try simp only [hdrew, size_alloc] at A90 F90 Y90)) | skip); (first | (have A91 := own_box (S4.own 2 _ rfl); have F91 := own_free (S4.own 2 _ rfl); have Y91 := own_lt (S4.own 2 _ rfl); (try simp only [hdrew, size_alloc] at A91 F91 Y91)) | skip); (first | (have A92 := own_box (S4.own 3 _ rfl); have F92 := own_free (S4.own 3 _ rfl); have Y92 := own_lt (S4.own 3 _ rfl); (try simp only [hdrew, size_alloc] at A92 F92 Y92)) | skip))
      | (go_at_call 11; (first | (have Sa := S4; refine (toRegisters_any A n c rs a z s _ (hr.keep Sa.bel) hn2).mono ?_) | (have Sa := (S4).new (below_alloc _ _) (own_bx _ 28 4 #[.slice none 0 0, .int .i64 0, .bool false, .bool false] rfl); refine (toRegisters_any A n c rs a z s _ (hr.keep Sa.bel) hn2).mono ?_)); rintro e w5 ⟨A5, c5, rfl, ho5, hb5⟩; have S5 := Sa.new hb5 ho5; clear Sa; (try clear A90 F90 Y90); (try clear A91 F91 Y91); (try clear A92 F92 Y92); (try clear q0 q1 q2 q3); have q0 : w5.cell? ⟨w.heap.size, 0, none⟩ = some (.slice A n c) := own_box (S5.own 0 _ rfl) 0; have q1 : w5.cell? ⟨w.heap.size, 1, none⟩ = some (.int .i64 a) := own_box (S5.own 0 _ rfl) 1; have q2 : w5.cell? ⟨w.heap.size, 2, none⟩ = some (.bool z) := own_box (S5.own 0 _ rfl) 2; have q3 : w5.cell? ⟨w.heap.size, 3, none⟩ = some (.bool s) := own_box (S5.own 0 _ rfl) 3; have Y1_5 := own_lt (S5.own 0 _ rfl); (first | (have A90 := own_box (S5.own 1 _ rfl); have F90 := own_free (S5.own 1 _ rfl); have Y90 := own_lt (S5.own 1 _ rfl); (try simp only [hdrew, size_alloc] at A90 F90 Y90)) | skip); (first | (have A91 := own_box (S5.own 2 _ rfl); have F91 := own_free (S5.own 2 _ rfl); have Y91 := own_lt (S5.own 2 _ rfl); (try simp only [hdrew, size_alloc] at A91 F91 Y91)) | skip); (first | (have A92 := own_box (S5.own 3 _ rfl); have F92 := own_free (S5.own 3 _ rfl); have Y92 := own_lt (S5.own 3 _ rfl); (try simp only [hdrew, size_alloc] at A92 F92 Y92)) | skip))
      | (go_at_call 18; (first | (have Sa := S5; refine (s_RunGuest_any A4 np c4 ps A5 n c5 rs a z s most _ (by first | exact Sa.rd 1 rfl | exact Sa.rd 2 rfl) (by first | exact Sa.rd 2 rfl | exact Sa.rd 3 rfl) hnp hn2).mono ?_) | (have Sa := (S5).new (below_alloc _ _) (own_bx _ 28 4 #[.slice none 0 0, .int .i64 0, .bool false, .bool false] rfl); refine (s_RunGuest_any A4 np c4 ps A5 n c5 rs a z s most _ (by first | exact Sa.rd 1 rfl | exact Sa.rd 2 rfl) (by first | exact Sa.rd 2 rfl | exact Sa.rd 3 rfl) hnp hn2).mono ?_)); rintro e w6 ⟨A6, c6, rfl, ho6, hb6⟩; have S6 := Sa.new hb6 ho6; clear Sa; (try clear A90 F90 Y90); (try clear A91 F91 Y91); (try clear A92 F92 Y92); (try clear q0 q1 q2 q3); have q0 : w6.cell? ⟨w.heap.size, 0, none⟩ = some (.slice A n c) := own_box (S6.own 0 _ rfl) 0; have q1 : w6.cell? ⟨w.heap.size, 1, none⟩ = some (.int .i64 a) := own_box (S6.own 0 _ rfl) 1; have q2 : w6.cell? ⟨w.heap.size, 2, none⟩ = some (.bool z) := own_box (S6.own 0 _ rfl) 2; have q3 : w6.cell? ⟨w.heap.size, 3, none⟩ = some (.bool s) := own_box (S6.own 0 _ rfl) 3; have Y1_6 := own_lt (S6.own 0 _ rfl); (first | (have A90 := own_box (S6.own 1 _ rfl); have F90 := own_free (S6.own 1 _ rfl); have Y90 := own_lt (S6.own 1 _ rfl); (try simp only [hdrew, size_alloc] at A90 F90 Y90)) | skip); (first | (have A91 := own_box (S6.own 2 _ rfl); have F91 := own_free (S6.own 2 _ rfl); have Y91 := own_lt (S6.own 2 _ rfl); (try simp only [hdrew, size_alloc] at A91 F91 Y91)) | skip); (first | (have A92 := own_box (S6.own 3 _ rfl); have F92 := own_free (S6.own 3 _ rfl); have Y92 := own_lt (S6.own 3 _ rfl); (try simp only [hdrew, size_alloc] at A92 F92 Y92)) | skip)))
    all_goals simp only [hdrew, size_alloc, List.cons_append, List.nil_append] at S6
    all_goals have HS6 := Lib.hid S6
    all_goals clear S6
    all_goals
      go_wp2_with fail
      go_meet
      refine ⟨_, A4, A5, A6, c4, c5, c6, rfl, rfl, rfl, ?_⟩
      first
        | (have Sf := HS6.out.new (below_alloc _ _) (own_bx _ 28 4 #[.slice A6 (rnR ps rs a z s most).rs.length c6, .int .i64 (rnR ps rs a z s most).a, .bool (rnR ps rs a z s most).z, .bool (rnR ps rs a z s most).s] rfl); simp only [putAll, size_alloc, World.size_setCell, List.cons_append, List.nil_append, List.set_cons_succ, List.set_cons_zero, Nat.zero_add, Nat.reduceAdd] at Sf; with_reducible exact Lib.hid Sf)
        | (have Pf := own_putAll [.slice A6 (rnR ps rs a z s most).rs.length c6, .int .i64 (rnR ps rs a z s most).a, .bool (rnR ps rs a z s most).z, .bool (rnR ps rs a z s most).s] _ _ 0 (HS6.out.own 1 _ rfl); have Sf := HS6.out.write 1 rfl Pf.2 _ Pf.1; simp only [putAll, size_alloc, World.size_setCell, List.cons_append, List.nil_append, List.set_cons_succ, List.set_cons_zero, Nat.zero_add, Nat.reduceAdd] at Sf; with_reducible refine sep_castp Sf ?_; exact (List.Perm.cons _ (perm4a _ _ _ _)))
        | (have Pf := own_putAll [.slice A6 (rnR ps rs a z s most).rs.length c6, .int .i64 (rnR ps rs a z s most).a, .bool (rnR ps rs a z s most).z, .bool (rnR ps rs a z s most).s] _ _ 0 (HS6.out.own 2 _ rfl); have Sf := HS6.out.write 2 rfl Pf.2 _ Pf.1; simp only [putAll, size_alloc, World.size_setCell, List.cons_append, List.nil_append, List.set_cons_succ, List.set_cons_zero, Nat.zero_add, Nat.reduceAdd] at Sf; with_reducible refine sep_castp Sf ?_; exact (List.Perm.cons _ (perm4b _ _ _ _)))
        | (have Pf := own_putAll [.slice A6 (rnR ps rs a z s most).rs.length c6, .int .i64 (rnR ps rs a z s most).a, .bool (rnR ps rs a z s most).z, .bool (rnR ps rs a z s most).s] _ _ 0 (HS6.out.own 3 _ rfl); have Sf := HS6.out.write 3 rfl Pf.2 _ Pf.1; simp only [putAll, size_alloc, World.size_setCell, List.cons_append, List.nil_append, List.set_cons_succ, List.set_cons_zero, Nat.zero_add, Nat.reduceAdd] at Sf; with_reducible refine sep_castp Sf ?_; exact (List.Perm.cons _ (perm4c _ _ _ _)))
  case rest =>
  obtain ⟨g6, A4, A5, A6, c4, c5, c6, rfl, rfl, rfl, HS6⟩ := hcut
  clear HS2
  try clear Zg
  try clear Cg
  have Cg := own_box (HS6.out.own 0 _ rfl)
  have Zg := own_lt (HS6.out.own 0 _ rfl)
  try clear Zw
  try clear Cw
  have Cw := own_box (HS6.out.own 4 _ rfl)
  have Zw := own_lt (HS6.out.own 4 _ rfl)
  go_wp2_with fail
  refine (toInstructionS_any Ap np cp ps _ (hp.keep HS6.out.bel) hnp).mono ?_
  rintro e w7 ⟨A7, c7, rfl, ho7, hb7⟩
  have S7 := HS6.out.new hb7 ho7
  try simp only [List.nil_append, List.cons_append, List.set_cons_zero, List.set_cons_succ] at S7
  have HS7 := Lib.hid S7
  clear S7
  clear Cg Zg
  have Cg := own_box (HS7.out.own 0 _ rfl)
  have Zg := own_lt (HS7.out.own 0 _ rfl)
  clear Cw Zw
  have Cw := own_box (HS7.out.own 4 _ rfl)
  have Zw := own_lt (HS7.out.own 4 _ rfl)
  clear HS6
  clear hb7 ho7
  go_wp2_with fail
  refine (toRegisters_any A n c rs a z s _ (hr.keep HS7.out.bel) hn2).mono ?_
  rintro e w8 ⟨A8, c8, rfl, ho8, hb8⟩
  have S8 := HS7.out.new hb8 ho8
  try simp only [List.nil_append, List.cons_append, List.set_cons_zero, List.set_cons_succ] at S8
  have HS8 := Lib.hid S8
  clear S8
  clear Cg Zg
  have Cg := own_box (HS8.out.own 0 _ rfl)
  have Zg := own_lt (HS8.out.own 0 _ rfl)
  clear Cw Zw
  have Cw := own_box (HS8.out.own 4 _ rfl)
  have Zw := own_lt (HS8.out.own 4 _ rfl)
  clear HS7
  clear hb8 ho8
  have S9 := HS8.out.new (below_alloc _ _) (own_bx _ 28 4 #[.slice A8 n c8, .int .i64 a, .bool z, .bool s] rfl)
  try simp only [List.nil_append, List.cons_append, List.set_cons_zero, List.set_cons_succ] at S9
  have HS9 := Lib.hid S9
  clear S9
  clear Cg Zg
  have Cg := own_box (HS9.out.own 0 _ rfl)
  have Zg := own_lt (HS9.out.own 0 _ rfl)
  clear Cw Zw
  have Cw := own_box (HS9.out.own 4 _ rfl)
  have Zw := own_lt (HS9.out.own 4 _ rfl)
  have Cx := own_box (HS9.out.own 7 _ rfl)
  have Zx := own_lt (HS9.out.own 7 _ rfl)
  clear HS8
  go_wp2_with fail
  refine (i_RunGuest_any A7 np c7 ps A8 n c8 rs a z s most _ (HS9.out.rd 5 rfl) (HS9.out.rd 6 rfl) hnp hn2).mono ?_
  rintro e w10 ⟨A10, c10, rfl, ho10, hb10⟩
  have S10 := HS9.out.new hb10 ho10
  try simp only [List.nil_append, List.cons_append, List.set_cons_zero, List.set_cons_succ] at S10
  have HS10 := Lib.hid S10
  clear S10
  clear Cg Zg
  have Cg := own_box (HS10.out.own 0 _ rfl)
  have Zg := own_lt (HS10.out.own 0 _ rfl)
  clear Cw Zw
  have Cw := own_box (HS10.out.own 4 _ rfl)
  have Zw := own_lt (HS10.out.own 4 _ rfl)
  clear Cx Zx
  have Cx := own_box (HS10.out.own 7 _ rfl)
  have Zx := own_lt (HS10.out.own 7 _ rfl)
  clear HS9
  clear hb10 ho10
  have S11 := HS10.out.new (below_alloc _ _) (own_bx _ 28 4 #[.slice A10 (rnR ps rs a z s most).rs.length c10, .int .i64 (rnR ps rs a z s most).a, .bool (rnR ps rs a z s most).z, .bool (rnR ps rs a z s most).s] rfl)
  try simp only [List.nil_append, List.cons_append, List.set_cons_zero, List.set_cons_succ] at S11
  have HS11 := Lib.hid S11
  clear S11
  clear Cg Zg
  have Cg := own_box (HS11.out.own 0 _ rfl)
  have Zg := own_lt (HS11.out.own 0 _ rfl)
  clear Cw Zw
  have Cw := own_box (HS11.out.own 4 _ rfl)
  have Zw := own_lt (HS11.out.own 4 _ rfl)
  clear Cx Zx
  have Cx := own_box (HS11.out.own 7 _ rfl)
  have Zx := own_lt (HS11.out.own 7 _ rfl)
  have Ch := own_box (HS11.out.own 9 _ rfl)
  have Zh := own_lt (HS11.out.own 9 _ rfl)
  clear HS10
  go_wp2_with fail
  refine (eqRegisters_same A10 A6 (rnR ps rs a z s most).rs.length c10 c6 (rnR ps rs a z s most).rs (rnR ps rs a z s most).a (rnR ps rs a z s most).z (rnR ps rs a z s most).s _ (HS11.out.rd 8 rfl) (HS11.out.rd 3 rfl) hX).mono ?_
  rintro e w12 ⟨rfl, hb12⟩
  have S12 := HS11.out.below hb12
  try simp only [List.nil_append, List.cons_append, List.set_cons_zero, List.set_cons_succ] at S12
  have HS12 := Lib.hid S12
  clear S12
  clear Cg Zg
  have Cg := own_box (HS12.out.own 0 _ rfl)
  have Zg := own_lt (HS12.out.own 0 _ rfl)
  clear Cw Zw
  have Cw := own_box (HS12.out.own 4 _ rfl)
  have Zw := own_lt (HS12.out.own 4 _ rfl)
  clear Cx Zx
  have Cx := own_box (HS12.out.own 7 _ rfl)
  have Zx := own_lt (HS12.out.own 7 _ rfl)
  clear Ch Zh
  have Ch := own_box (HS12.out.own 9 _ rfl)
  have Zh := own_lt (HS12.out.own 9 _ rfl)
  clear HS11
  clear hb12
  go_wp2_with fail
  refine (toInstructionS_any Ap np cp ps _ (hp.keep HS12.out.bel) hnp).mono ?_
  rintro e w13 ⟨A13, c13, rfl, ho13, hb13⟩
  have S13 := HS12.out.new hb13 ho13
  try simp only [List.nil_append, List.cons_append, List.set_cons_zero, List.set_cons_succ] at S13
  have HS13 := Lib.hid S13
  clear S13
  clear Cg Zg
  have Cg := own_box (HS13.out.own 0 _ rfl)
  have Zg := own_lt (HS13.out.own 0 _ rfl)
  clear Cw Zw
  have Cw := own_box (HS13.out.own 4 _ rfl)
  have Zw := own_lt (HS13.out.own 4 _ rfl)
  clear Cx Zx
  have Cx := own_box (HS13.out.own 7 _ rfl)
  have Zx := own_lt (HS13.out.own 7 _ rfl)
  clear Ch Zh
  have Ch := own_box (HS13.out.own 9 _ rfl)
  have Zh := own_lt (HS13.out.own 9 _ rfl)
  clear HS12
  clear hb13 ho13
  go_wp2_with fail
  refine (eqInstructionS_same A7 A13 np c7 c13 ps _ (HS13.out.rd 5 rfl) (HS13.out.rd 10 rfl) hnp).mono ?_
  rintro e w14 ⟨rfl, hb14⟩
  have S14 := HS13.out.below hb14
  try simp only [List.nil_append, List.cons_append, List.set_cons_zero, List.set_cons_succ] at S14
  have HS14 := Lib.hid S14
  clear S14
  clear Cg Zg
  have Cg := own_box (HS14.out.own 0 _ rfl)
  have Zg := own_lt (HS14.out.own 0 _ rfl)
  clear Cw Zw
  have Cw := own_box (HS14.out.own 4 _ rfl)
  have Zw := own_lt (HS14.out.own 4 _ rfl)
  clear Cx Zx
  have Cx := own_box (HS14.out.own 7 _ rfl)
  have Zx := own_lt (HS14.out.own 7 _ rfl)
  clear Ch Zh
  have Ch := own_box (HS14.out.own 9 _ rfl)
  have Zh := own_lt (HS14.out.own 9 _ rfl)
  clear HS13
  clear hb14
  have S15 := (HS14.out).below (Below.drew (Below.refl _ _))
  clear Cg Zg
  have Cg := own_box (S15.own 0 _ rfl)
  clear Cw Zw
  have Cw := own_box (S15.own 4 _ rfl)
  clear Cx Zx
  have Cx := own_box (S15.own 7 _ rfl)
  clear Ch Zh
  have Ch := own_box (S15.own 9 _ rfl)
  clear HS14
  go_wp2_with fail
  go_region_with (first
    | (go_at_call 11; refine (toRegisters_any A n c rs a z s _ (hr.keep S15.bel) hn2).mono ?_; rintro e w16 ⟨A16, c16, rfl, ho16, hb16⟩; have S16 := S15.new hb16 ho16; have Cg := own_box (S16.own 0 _ rfl); have Cw := own_box (S16.own 4 _ rfl); have Cx := own_box (S16.own 7 _ rfl); have Ch := own_box (S16.own 9 _ rfl))
    | (go_at_call 13; refine (eqRegisters_same A8 A16 n c8 c16 rs a z s _ (S16.rd 6 rfl) (S16.rd 11 rfl) hn2).mono ?_; rintro e w17 ⟨rfl, hb17⟩; have S17 := S16.below hb17))
  all_goals
    have HS17 := Lib.hid S17
    clear S17
    try clear Cg
    try clear Zg
    have Cg := own_box (HS17.out.own 0 _ rfl)
    have Zg := own_lt (HS17.out.own 0 _ rfl)
    try clear Cw
    try clear Zw
    have Cw := own_box (HS17.out.own 4 _ rfl)
    have Zw := own_lt (HS17.out.own 4 _ rfl)
    try clear Cx
    try clear Zx
    have Cx := own_box (HS17.out.own 7 _ rfl)
    have Zx := own_lt (HS17.out.own 7 _ rfl)
    try clear Ch
    try clear Zh
    have Ch := own_box (HS17.out.own 9 _ rfl)
    have Zh := own_lt (HS17.out.own 9 _ rfl)
    try simp only [List.nil_append, List.cons_append] at HS17
    go_wp2_with fail
    refine (markInstructionS_any A7 np c7 _ ps 1 _ (HS17.out.own 5 _ rfl) hnp (by omega) (by omega)).mono ?_
    rintro e w18 ⟨rfl, ho18, hg18⟩
    have S18 := HS17.out.write 5 rfl hg18 _ ho18
    try simp only [List.nil_append, List.cons_append, List.set_cons_zero, List.set_cons_succ] at S18
    have HS18 := Lib.hid S18
    clear S18
    clear Cg Zg
    have Cg := own_box (HS18.out.own 0 _ rfl)
    have Zg := own_lt (HS18.out.own 0 _ rfl)
    clear Cw Zw
    have Cw := own_box (HS18.out.own 4 _ rfl)
    have Zw := own_lt (HS18.out.own 4 _ rfl)
    clear Cx Zx
    have Cx := own_box (HS18.out.own 7 _ rfl)
    have Zx := own_lt (HS18.out.own 7 _ rfl)
    clear Ch Zh
    have Ch := own_box (HS18.out.own 9 _ rfl)
    have Zh := own_lt (HS18.out.own 9 _ rfl)
    clear HS17
    clear ho18 hg18
    go_wp2_with fail
    refine (markRegisters_any A8 n c8 _ rs a z s (1 + (np : Int) * 4) _ (HS18.out.own 6 _ rfl) hn2 (by omega) (by omega)).mono ?_
    rintro e w19 ⟨rfl, ho19, hg19⟩
    have S19 := HS18.out.write 6 rfl hg19 _ ho19
    try simp only [List.nil_append, List.cons_append, List.set_cons_zero, List.set_cons_succ] at S19
    have HS19 := Lib.hid S19
    clear S19
    clear Cg Zg
    have Cg := own_box (HS19.out.own 0 _ rfl)
    have Zg := own_lt (HS19.out.own 0 _ rfl)
    clear Cw Zw
    have Cw := own_box (HS19.out.own 4 _ rfl)
    have Zw := own_lt (HS19.out.own 4 _ rfl)
    clear Cx Zx
    have Cx := own_box (HS19.out.own 7 _ rfl)
    have Zx := own_lt (HS19.out.own 7 _ rfl)
    clear Ch Zh
    have Ch := own_box (HS19.out.own 9 _ rfl)
    have Zh := own_lt (HS19.out.own 9 _ rfl)
    clear HS18
    clear ho19 hg19
    have hk19 : ¬ (1 : Int) + (np : Int) * 4 + (n : Int) < 0 := by omega
    go_wp2_with fail
    refine (eqRegisters_same A10 A6 (rnR ps rs a z s most).rs.length c10 c6 (rnR ps rs a z s most).rs (rnR ps rs a z s most).a (rnR ps rs a z s most).z (rnR ps rs a z s most).s _ (HS19.out.rd 8 rfl) (HS19.out.rd 3 rfl) hX).mono ?_
    rintro e w20 ⟨rfl, hb20⟩
    have S20 := HS19.out.below hb20
    try simp only [List.nil_append, List.cons_append, List.set_cons_zero, List.set_cons_succ] at S20
    have HS20 := Lib.hid S20
    clear S20
    clear Cg Zg
    have Cg := own_box (HS20.out.own 0 _ rfl)
    have Zg := own_lt (HS20.out.own 0 _ rfl)
    clear Cw Zw
    have Cw := own_box (HS20.out.own 4 _ rfl)
    have Zw := own_lt (HS20.out.own 4 _ rfl)
    clear Cx Zx
    have Cx := own_box (HS20.out.own 7 _ rfl)
    have Zx := own_lt (HS20.out.own 7 _ rfl)
    clear Ch Zh
    have Ch := own_box (HS20.out.own 9 _ rfl)
    have Zh := own_lt (HS20.out.own 9 _ rfl)
    clear HS19
    clear hb20
    go_wp2_with fail
    refine (markRegisters_any A10 (rnR ps rs a z s most).rs.length c10 _ (rnR ps rs a z s most).rs (rnR ps rs a z s most).a (rnR ps rs a z s most).z (rnR ps rs a z s most).s 1 _ (HS20.out.own 8 _ rfl) hX (by omega) (by omega)).mono ?_
    rintro e w21 ⟨rfl, ho21, hg21⟩
    have S21 := HS20.out.write 8 rfl hg21 _ ho21
    try simp only [List.nil_append, List.cons_append, List.set_cons_zero, List.set_cons_succ] at S21
    have HS21 := Lib.hid S21
    clear S21
    clear Cg Zg
    have Cg := own_box (HS21.out.own 0 _ rfl)
    have Zg := own_lt (HS21.out.own 0 _ rfl)
    clear Cw Zw
    have Cw := own_box (HS21.out.own 4 _ rfl)
    have Zw := own_lt (HS21.out.own 4 _ rfl)
    clear Cx Zx
    have Cx := own_box (HS21.out.own 7 _ rfl)
    have Zx := own_lt (HS21.out.own 7 _ rfl)
    clear Ch Zh
    have Ch := own_box (HS21.out.own 9 _ rfl)
    have Zh := own_lt (HS21.out.own 9 _ rfl)
    clear HS20
    clear ho21 hg21
    have hm21 : ¬ (1 : Int) + (((rnR ps rs a z s most).rs.length : Nat) : Int) < 0 := by omega
    go_wp2_with fail
    refine (heldRegisters_marks A10 (rnR ps rs a z s most).rs.length c10 (rnR ps rs a z s most).a (rnR ps rs a z s most).z (rnR ps rs a z s most).s 1 _ (HS21.out.rd 8 rfl) hX (by omega) (by omega)).mono ?_
    rintro e w22 ⟨rfl, hb22⟩
    have S22 := HS21.out.below hb22
    try simp only [List.nil_append, List.cons_append, List.set_cons_zero, List.set_cons_succ] at S22
    have HS22 := Lib.hid S22
    clear S22
    clear Cg Zg
    have Cg := own_box (HS22.out.own 0 _ rfl)
    have Zg := own_lt (HS22.out.own 0 _ rfl)
    clear Cw Zw
    have Cw := own_box (HS22.out.own 4 _ rfl)
    have Zw := own_lt (HS22.out.own 4 _ rfl)
    clear Cx Zx
    have Cx := own_box (HS22.out.own 7 _ rfl)
    have Zx := own_lt (HS22.out.own 7 _ rfl)
    clear Ch Zh
    have Ch := own_box (HS22.out.own 9 _ rfl)
    have Zh := own_lt (HS22.out.own 9 _ rfl)
    clear HS21
    clear hb22
    go_upto_region 31 with (fail)
    go_cut [19, 20, 21] from 113 to 122 (fun x19 x20 x21 wx => ∃ (g26 : Nat) (A24 A25 A26 : Option Addr) (c24 c25 c26 : Nat), x19 = .pointer (some ⟨g26, 0, none⟩) ∧ x20 = .int .i64 (rnN ps rs a z s most) ∧ x21 = .bool (rnB ps rs a most) ∧ Hid (Sep w wx [bx 25 4 (w.heap.size) [.slice A n c, .int .i64 a, .bool z, .bool s], tsInstruction A4 np c4 ps, ti A5 n c5 rs, ti A6 (rnR ps rs a z s most).rs.length c6 (rnR ps rs a z s most).rs, bx 28 4 g6 [.slice A6 (rnR ps rs a z s most).rs.length c6, .int .i64 (rnR ps rs a z s most).a, .bool (rnR ps rs a z s most).z, .bool (rnR ps rs a z s most).s], tsInstruction A7 np c7 (mksInstruction 1 np), ti A8 n c8 (marks (1 + (np : Int) * 4) n), bx 28 4 (w8.heap.size) [.slice A8 n c8, .int .i64 a, .bool z, .bool s], ti A10 (rnR ps rs a z s most).rs.length c10 (marks 1 (rnR ps rs a z s most).rs.length), bx 28 4 (w10.heap.size) [.slice A10 (rnR ps rs a z s most).rs.length c10, .int .i64 (rnR ps rs a z s most).a, .bool (rnR ps rs a z s most).z, .bool (rnR ps rs a z s most).s], tsInstruction A13 np c13 ps, ti A16 n c16 rs, tsInstruction A24 np c24 ps, ti A25 n c25 rs, ti A26 (rnR ps rs a z s most).rs.length c26 (rnR ps rs a z s most).rs, bx 28 4 g26 [.slice A26 (rnR ps rs a z s most).rs.length c26, .int .i64 (rnR ps rs a z s most).a, .bool (rnR ps rs a z s most).z, .bool (rnR ps rs a z s most).s]]))
    case first =>
      have S23 := (HS22.out).below (Below.drew (Below.refl _ _))
      have Y1_23 := own_lt (S23.own 0 _ rfl)
      simp only [hdrew] at Y1_23
      have dc0 := (own_box (HS22.out.own 0 _ rfl) 0)
      have dc1 := (own_box (HS22.out.own 0 _ rfl) 1)
      have dc2 := (own_box (HS22.out.own 0 _ rfl) 2)
      have dc3 := (own_box (HS22.out.own 0 _ rfl) 3)
      have cc0 := (own_box (S23.own 0 _ rfl) 0)
      have cc1 := (own_box (S23.own 0 _ rfl) 1)
      have cc2 := (own_box (S23.own 0 _ rfl) 2)
      have cc3 := (own_box (S23.own 0 _ rfl) 3)
      have dc0 : (_ : World).cell? ⟨w.heap.size, 0, none⟩ = some (.slice A n c) := dc0
      have cc0 : (_ : World).cell? ⟨w.heap.size, 0, none⟩ = some (.slice A n c) := cc0
      have dc1 : (_ : World).cell? ⟨w.heap.size, 1, none⟩ = some (.int .i64 a) := dc1
      have cc1 : (_ : World).cell? ⟨w.heap.size, 1, none⟩ = some (.int .i64 a) := cc1
      have dc2 : (_ : World).cell? ⟨w.heap.size, 2, none⟩ = some (.bool z) := dc2
      have cc2 : (_ : World).cell? ⟨w.heap.size, 2, none⟩ = some (.bool z) := cc2
      have dc3 : (_ : World).cell? ⟨w.heap.size, 3, none⟩ = some (.bool s) := dc3
      have cc3 : (_ : World).cell? ⟨w.heap.size, 3, none⟩ = some (.bool s) := cc3
      clear Cg
      clear Cw
      clear Cx
      clear Ch
      go_region_held3 (fun w' => w'.cell? ⟨w.heap.size, 0, none⟩ = some (.slice A n c) ∧ w'.cell? ⟨w.heap.size, 1, none⟩ = some (.int .i64 a) ∧ w'.cell? ⟨w.heap.size, 2, none⟩ = some (.bool z) ∧ w'.cell? ⟨w.heap.size, 3, none⟩ = some (.bool s))
        (first | (with_reducible exact ⟨q0, q1, q2, q3⟩) | (with_reducible exact ⟨cc0, cc1, cc2, cc3⟩) | (refine ⟨?_, ?_, ?_, ?_⟩ <;> (repeat (first | (with_reducible exact q0) | (with_reducible exact q1) | (with_reducible exact q2) | (with_reducible exact q3) | (with_reducible exact cc0) | (with_reducible exact cc1) | (with_reducible exact cc2) | (with_reducible exact cc3) | (with_reducible exact dc0) | (with_reducible exact dc1) | (with_reducible exact dc2) | (with_reducible exact dc3) | (with_reducible refine kset (by omega) ?_) | (with_reducible refine kalloc ?_) | (with_reducible refine kdrew ?_))))) (first
        | (go_at_call 10; (first | (have Sa := S23; refine (toInstructionS_any Ap np cp ps _ (hp.keep Sa.bel) hnp).mono ?_) | (have Sa := (S23).new (below_alloc _ _) (own_bx _ 28 4 #[.slice none 0 0, .int .i64 0, .bool false, .bool false] rfl); refine (toInstructionS_any Ap np cp ps _ (hp.keep Sa.bel) hnp).mono ?_)); rintro e w24 ⟨A24, c24, rfl, ho24, hb24⟩; have S24 := Sa.new hb24 ho24; clear Sa; (try clear A90 F90 Y90); (try clear A91 F91 Y91); (try clear A92 F92 Y92); (try clear q0 q1 q2 q3); have q0 : w24.cell? ⟨w.heap.size, 0, none⟩ = some (.slice A n c) := own_box (S24.own 0 _ rfl) 0; have q1 : w24.cell? ⟨w.heap.size, 1, none⟩ = some (.int .i64 a) := own_box (S24.own 0 _ rfl) 1; have q2 : w24.cell? ⟨w.heap.size, 2, none⟩ = some (.bool z) := own_box (S24.own 0 _ rfl) 2; have q3 : w24.cell? ⟨w.heap.size, 3, none⟩ = some (.bool s) := own_box (S24.own 0 _ rfl) 3; have Y1_24 := own_lt (S24.own 0 _ rfl); (first | (have A90 := own_box (S24.own 12 _ rfl); have F90 := own_free (S24.own 12 _ rfl); have Y90 := own_lt (S24.own 12 _ rfl); (try simp only [hdrew, size_alloc] at A90 F90 Y90)) | skip); (first | (have A91 := own_box (S24.own 13 _ rfl); have F91 := own_free (S24.own 13 _ rfl); have Y91 := own_lt (S24.own 13 _ rfl); (try simp only [hdrew, size_alloc] at A91 F91 Y91)) | skip); (first | (have A92 := own_box (S24.own 14 _ rfl); have F92 := own_free (S24.own 14 _ rfl); have Y92 := own_lt (S24.own 14 _ rfl); (try simp only [hdrew, size_alloc] at A92 F92 Y92)) | skip))
        | (go_at_call 11; (first | (have Sa := S24; refine (toRegisters_any A n c rs a z s _ (hr.keep Sa.bel) hn2).mono ?_) | (have Sa := (S24).new (below_alloc _ _) (own_bx _ 28 4 #[.slice none 0 0, .int .i64 0, .bool false, .bool false] rfl); refine (toRegisters_any A n c rs a z s _ (hr.keep Sa.bel) hn2).mono ?_)); rintro e w25 ⟨A25, c25, rfl, ho25, hb25⟩; have S25 := Sa.new hb25 ho25; clear Sa; (try clear A90 F90 Y90); (try clear A91 F91 Y91); (try clear A92 F92 Y92); (try clear q0 q1 q2 q3); have q0 : w25.cell? ⟨w.heap.size, 0, none⟩ = some (.slice A n c) := own_box (S25.own 0 _ rfl) 0; have q1 : w25.cell? ⟨w.heap.size, 1, none⟩ = some (.int .i64 a) := own_box (S25.own 0 _ rfl) 1; have q2 : w25.cell? ⟨w.heap.size, 2, none⟩ = some (.bool z) := own_box (S25.own 0 _ rfl) 2; have q3 : w25.cell? ⟨w.heap.size, 3, none⟩ = some (.bool s) := own_box (S25.own 0 _ rfl) 3; have Y1_25 := own_lt (S25.own 0 _ rfl); (first | (have A90 := own_box (S25.own 12 _ rfl); have F90 := own_free (S25.own 12 _ rfl); have Y90 := own_lt (S25.own 12 _ rfl); (try simp only [hdrew, size_alloc] at A90 F90 Y90)) | skip); (first | (have A91 := own_box (S25.own 13 _ rfl); have F91 := own_free (S25.own 13 _ rfl); have Y91 := own_lt (S25.own 13 _ rfl); (try simp only [hdrew, size_alloc] at A91 F91 Y91)) | skip); (first | (have A92 := own_box (S25.own 14 _ rfl); have F92 := own_free (S25.own 14 _ rfl); have Y92 := own_lt (S25.own 14 _ rfl); (try simp only [hdrew, size_alloc] at A92 F92 Y92)) | skip))
        | (go_at_call 19; (first | (have Sa := S25; refine (i_RunGuest_any A24 np c24 ps A25 n c25 rs a z s most _ (by first | exact Sa.rd 12 rfl | exact Sa.rd 13 rfl) (by first | exact Sa.rd 13 rfl | exact Sa.rd 14 rfl) hnp hn2).mono ?_) | (have Sa := (S25).new (below_alloc _ _) (own_bx _ 28 4 #[.slice none 0 0, .int .i64 0, .bool false, .bool false] rfl); refine (i_RunGuest_any A24 np c24 ps A25 n c25 rs a z s most _ (by first | exact Sa.rd 12 rfl | exact Sa.rd 13 rfl) (by first | exact Sa.rd 13 rfl | exact Sa.rd 14 rfl) hnp hn2).mono ?_)); rintro e w26 ⟨A26, c26, rfl, ho26, hb26⟩; have S26 := Sa.new hb26 ho26; clear Sa; (try clear A90 F90 Y90); (try clear A91 F91 Y91); (try clear A92 F92 Y92); (try clear q0 q1 q2 q3); have q0 : w26.cell? ⟨w.heap.size, 0, none⟩ = some (.slice A n c) := own_box (S26.own 0 _ rfl) 0; have q1 : w26.cell? ⟨w.heap.size, 1, none⟩ = some (.int .i64 a) := own_box (S26.own 0 _ rfl) 1; have q2 : w26.cell? ⟨w.heap.size, 2, none⟩ = some (.bool z) := own_box (S26.own 0 _ rfl) 2; have q3 : w26.cell? ⟨w.heap.size, 3, none⟩ = some (.bool s) := own_box (S26.own 0 _ rfl) 3; have Y1_26 := own_lt (S26.own 0 _ rfl); (first | (have A90 := own_box (S26.own 12 _ rfl); have F90 := own_free (S26.own 12 _ rfl); have Y90 := own_lt (S26.own 12 _ rfl); (try simp only [hdrew, size_alloc] at A90 F90 Y90)) | skip); (first | (have A91 := own_box (S26.own 13 _ rfl); have F91 := own_free (S26.own 13 _ rfl); have Y91 := own_lt (S26.own 13 _ rfl); (try simp only [hdrew, size_alloc] at A91 F91 Y91)) | skip); (first | (have A92 := own_box (S26.own 14 _ rfl); have F92 := own_free (S26.own 14 _ rfl); have Y92 := own_lt (S26.own 14 _ rfl); (try simp only [hdrew, size_alloc] at A92 F92 Y92)) | skip)))
      all_goals simp only [hdrew, size_alloc, List.cons_append, List.nil_append] at S26
      all_goals have HS26 := Lib.hid S26
      all_goals clear S26
      all_goals
        go_wp2_with fail
        go_meet
        refine ⟨_, A24, A25, A26, c24, c25, c26, rfl, rfl, rfl, ?_⟩
        first
          | (have Sf := HS26.out.new (below_alloc _ _) (own_bx _ 28 4 #[.slice A26 (rnR ps rs a z s most).rs.length c26, .int .i64 (rnR ps rs a z s most).a, .bool (rnR ps rs a z s most).z, .bool (rnR ps rs a z s most).s] rfl); simp only [putAll, size_alloc, World.size_setCell, List.cons_append, List.nil_append, List.set_cons_succ, List.set_cons_zero, Nat.zero_add, Nat.reduceAdd] at Sf; with_reducible exact Lib.hid Sf)
          | (have Pf := own_putAll [.slice A26 (rnR ps rs a z s most).rs.length c26, .int .i64 (rnR ps rs a z s most).a, .bool (rnR ps rs a z s most).z, .bool (rnR ps rs a z s most).s] _ _ 0 (HS26.out.own 12 _ rfl); have Sf := HS26.out.write 12 rfl Pf.2 _ Pf.1; simp only [putAll, size_alloc, World.size_setCell, List.cons_append, List.nil_append, List.set_cons_succ, List.set_cons_zero, Nat.zero_add, Nat.reduceAdd] at Sf; with_reducible refine sep_castp Sf ?_; exact (List.Perm.cons _ (List.Perm.cons _ (List.Perm.cons _ (List.Perm.cons _ (List.Perm.cons _ (List.Perm.cons _ (List.Perm.cons _ (List.Perm.cons _ (List.Perm.cons _ (List.Perm.cons _ (List.Perm.cons _ (List.Perm.cons _ (perm4a _ _ _ _))))))))))))))
          | (have Pf := own_putAll [.slice A26 (rnR ps rs a z s most).rs.length c26, .int .i64 (rnR ps rs a z s most).a, .bool (rnR ps rs a z s most).z, .bool (rnR ps rs a z s most).s] _ _ 0 (HS26.out.own 13 _ rfl); have Sf := HS26.out.write 13 rfl Pf.2 _ Pf.1; simp only [putAll, size_alloc, World.size_setCell, List.cons_append, List.nil_append, List.set_cons_succ, List.set_cons_zero, Nat.zero_add, Nat.reduceAdd] at Sf; with_reducible refine sep_castp Sf ?_; exact (List.Perm.cons _ (List.Perm.cons _ (List.Perm.cons _ (List.Perm.cons _ (List.Perm.cons _ (List.Perm.cons _ (List.Perm.cons _ (List.Perm.cons _ (List.Perm.cons _ (List.Perm.cons _ (List.Perm.cons _ (List.Perm.cons _ (perm4b _ _ _ _))))))))))))))
          | (have Pf := own_putAll [.slice A26 (rnR ps rs a z s most).rs.length c26, .int .i64 (rnR ps rs a z s most).a, .bool (rnR ps rs a z s most).z, .bool (rnR ps rs a z s most).s] _ _ 0 (HS26.out.own 14 _ rfl); have Sf := HS26.out.write 14 rfl Pf.2 _ Pf.1; simp only [putAll, size_alloc, World.size_setCell, List.cons_append, List.nil_append, List.set_cons_succ, List.set_cons_zero, Nat.zero_add, Nat.reduceAdd] at Sf; with_reducible refine sep_castp Sf ?_; exact (List.Perm.cons _ (List.Perm.cons _ (List.Perm.cons _ (List.Perm.cons _ (List.Perm.cons _ (List.Perm.cons _ (List.Perm.cons _ (List.Perm.cons _ (List.Perm.cons _ (List.Perm.cons _ (List.Perm.cons _ (List.Perm.cons _ (perm4c _ _ _ _))))))))))))))
    case rest =>
    obtain ⟨g26, A24, A25, A26, c24, c25, c26, rfl, rfl, rfl, HS26⟩ := hcut
    clear HS22
    try clear Zg
    try clear Cg
    have Cg := own_box (HS26.out.own 0 _ rfl)
    have Zg := own_lt (HS26.out.own 0 _ rfl)
    try clear Zw
    try clear Cw
    have Cw := own_box (HS26.out.own 4 _ rfl)
    have Zw := own_lt (HS26.out.own 4 _ rfl)
    try clear Zx
    try clear Cx
    have Cx := own_box (HS26.out.own 7 _ rfl)
    have Zx := own_lt (HS26.out.own 7 _ rfl)
    try clear Zh
    try clear Ch
    have Ch := own_box (HS26.out.own 9 _ rfl)
    have Zh := own_lt (HS26.out.own 9 _ rfl)
    try clear Zj
    try clear Cj
    have Cj := own_box (HS26.out.own 15 _ rfl)
    have Zj := own_lt (HS26.out.own 15 _ rfl)
    go_wp2_with fail
    refine (eqRegisters_same A26 A6 (rnR ps rs a z s most).rs.length c26 c6 (rnR ps rs a z s most).rs (rnR ps rs a z s most).a (rnR ps rs a z s most).z (rnR ps rs a z s most).s _ (HS26.out.rd 14 rfl) (HS26.out.rd 3 rfl) hX).mono ?_
    rintro e w27 ⟨rfl, hb27⟩
    have S27 := HS26.out.below hb27
    try simp only [List.nil_append, List.cons_append, List.set_cons_zero, List.set_cons_succ] at S27
    have HS27 := Lib.hid S27
    clear S27
    clear Cg Zg
    have Cg := own_box (HS27.out.own 0 _ rfl)
    have Zg := own_lt (HS27.out.own 0 _ rfl)
    clear Cw Zw
    have Cw := own_box (HS27.out.own 4 _ rfl)
    have Zw := own_lt (HS27.out.own 4 _ rfl)
    clear Cx Zx
    have Cx := own_box (HS27.out.own 7 _ rfl)
    have Zx := own_lt (HS27.out.own 7 _ rfl)
    clear Ch Zh
    have Ch := own_box (HS27.out.own 9 _ rfl)
    have Zh := own_lt (HS27.out.own 9 _ rfl)
    clear Cj Zj
    have Cj := own_box (HS27.out.own 15 _ rfl)
    have Zj := own_lt (HS27.out.own 15 _ rfl)
    clear HS26
    clear hb27
    go_wp2_with fail
    refine (heldRegisters_marks A10 (rnR ps rs a z s most).rs.length c10 (rnR ps rs a z s most).a (rnR ps rs a z s most).z (rnR ps rs a z s most).s 1 _ (HS27.out.rd 8 rfl) hX (by omega) (by omega)).mono ?_
    rintro e w28 ⟨rfl, hb28⟩
    have S28 := HS27.out.below hb28
    try simp only [List.nil_append, List.cons_append, List.set_cons_zero, List.set_cons_succ] at S28
    have HS28 := Lib.hid S28
    clear S28
    clear Cg Zg
    have Cg := own_box (HS28.out.own 0 _ rfl)
    have Zg := own_lt (HS28.out.own 0 _ rfl)
    clear Cw Zw
    have Cw := own_box (HS28.out.own 4 _ rfl)
    have Zw := own_lt (HS28.out.own 4 _ rfl)
    clear Cx Zx
    have Cx := own_box (HS28.out.own 7 _ rfl)
    have Zx := own_lt (HS28.out.own 7 _ rfl)
    clear Ch Zh
    have Ch := own_box (HS28.out.own 9 _ rfl)
    have Zh := own_lt (HS28.out.own 9 _ rfl)
    clear Cj Zj
    have Cj := own_box (HS28.out.own 15 _ rfl)
    have Zj := own_lt (HS28.out.own 15 _ rfl)
    clear HS27
    clear hb28
    go_wp2
    go_ret
    exact ⟨rfl, HS28.out.bel⟩
end Go.Proofs.Ytjioedbpjdeigaa
