/- The walk of the law FnExactAreRegisters through its contracts. FnExactAreRegisters returns true for all arguments. No conditions. -/
import Derived.Test.YtdlgohndocpmjaaRg
import Derived.Test.YtdlgohndocpmjaaOpInstruction
import Derived.Test.YtdlgohndocpmjaaOpReg
namespace Go.Proofs.Ytdlgohndocpmjaa
open Go.RowKit
set_option linter.unusedVariables false
set_option linter.unusedSimpArgs false

set_option maxHeartbeats 4000000 in
theorem walk_FnExactAreRegisters (Ap : Option Addr) (np cp : Nat) (ps : List RInstruction) (A : Option Addr) (n c : Nat) (rs : List Int) (a : Int) (z s : Bool) (w : World) (hp : Rd w 4 Ap np (J cInstruction ps)) (hmp : np ≤ maxLen) (_ : ∀ x ∈ ps, wfInstruction x) (hr : Rd w 1 A n (I rs)) (hm : n ≤ maxLen) :
    Calls Try.prog 7 #[.slice Ap np cp, regV A n c a z s] w fun e w' => e = .returned (.bool true) ∧ Below w.heap.size w w' := by
  unfold maxLen at hm hmp
  have S0 := (Sep.start w).new (below_alloc w _) (own_bx w 43 4 #[.slice A n c, .int .i64 a, .bool z, .bool s] rfl)
  simp only [List.nil_append] at S0
  by_cases hnp : np ≤ 1048576
  rotate_left
  · go_enter Try.func7, Try.ntmps7
    go_wp2_with fail
    refine (szInstructionS_eq Ap np cp _ hmp (-1) (if_neg hnp)).mono ?_
    rintro e w1 ⟨rfl, rfl⟩
    go_wp2
    go_ret
    exact ⟨rfl, below_alloc _ _⟩
  by_cases hn : (n : Int) ≤ 1048576 - (np : Int)
  rotate_left
  · have HN := Lib.hid hn
    clear hn
    go_enter Try.func7, Try.ntmps7
    go_wp2_with fail
    refine (szInstructionS_eq Ap np cp _ hmp _ (if_pos hnp)).mono ?_
    rintro e w1 ⟨rfl, rfl⟩
    have hz : ¬ (1048576 : Int) - (np : Int) < 0 := by omega
    go_wp2_with fail
    refine (szRegisters_eq A n c a z s _ _ hm (by omega) (by omega) (-1) (if_neg (Int.not_le.2 HN.out))).mono ?_
    rintro e w1 ⟨rfl, hb⟩
    go_wp2
    go_ret
    exact ⟨rfl, below_next (below_alloc _ _) hb⟩
  have hz : ¬ (1048576 : Int) - (np : Int) < 0 := by omega
  have hz2 : ¬ (1048576 : Int) - (np : Int) - (n : Int) < 0 := by omega
  have hn2 : n ≤ 1048576 := by omega
  go_enter Try.func7, Try.ntmps7
  go_wp2_with fail
  refine (szInstructionS_eq Ap np cp _ hmp _ (if_pos hnp)).mono ?_
  rintro e w1 ⟨rfl, rfl⟩
  go_wp2_with fail
  refine (szRegisters_eq A n c a z s _ _ hm (by omega) (by omega) _ (if_pos hn)).mono ?_
  rintro e w1 ⟨rfl, hb⟩
  have S1 := (S0.below hb).below (Below.drew (Below.refl _ _))
  have C1 := own_box (S1.own 0 _ rfl)
  clear hb
  go_wp2_with fail
  go_region_with (first
    | (go_at_call 22; refine (toInstructionS_any Ap np cp ps _ (hp.keep S1.bel) hnp).mono ?_; rintro e w2 ⟨A2, c2, rfl, ho2, hb2⟩; have S2 := S1.new (L := [_]) hb2 ho2; have C2 := own_box (S2.own 0 _ rfl))
    | (go_at_call 27; refine (toRegisters_any A n c rs a z s _ (hr.keep S2.bel) hn2).mono ?_; rintro e w3 ⟨A3, c3, rfl, ho3, hb3⟩; have S3 := S2.new hb3 ho3)
    | (go_at_call 26; refine (s_AreRegisters_any A2 np c2 ps A3 n c3 rs a z s _ (S3.rd 1 rfl) (S3.rd 2 rfl) hnp hn2).mono ?_; rintro e w4 ⟨rfl, hb4⟩; have S4 := S3.below hb4))
  all_goals have HS4 := Lib.hid S4
  all_goals clear S4
  all_goals try clear S3
  all_goals try clear S2
  all_goals clear S1 S0
  all_goals
    go_wp2_with fail
    refine (toInstructionS_any Ap np cp ps _ (hp.keep HS4.out.bel) hnp).mono ?_
    rintro e w5 ⟨A5, c5, rfl, ho5, hb5⟩
    have S5 := HS4.out.new hb5 ho5
    simp only [List.nil_append, List.cons_append] at S5
    have C5 := own_box (S5.own 0 _ rfl)
    go_wp2_with fail
    refine (toRegisters_any A n c rs a z s _ (hr.keep S5.bel) hn2).mono ?_
    rintro e w6 ⟨A6, c6, rfl, ho6, hb6⟩
    have S6 := S5.new hb6 ho6
    have S7 := S6.new (below_alloc _ _) (own_bx w6 46 4 #[.slice A6 n c6, .int .i64 a, .bool z, .bool s] rfl)
    simp only [List.nil_append, List.cons_append] at S7
    have HS7 := Lib.hid S7
    have C6 := own_box (HS7.out.own 0 _ rfl)
    clear S5 S6 S7 C5 ho5 hb5 ho6 hb6
    go_wp2_with fail
    refine (i_AreRegisters_any A5 np c5 ps A6 n c6 rs a z s _ (HS7.out.rd 3 rfl) (HS7.out.rd 4 rfl) hnp hn2).mono ?_
    rintro e w8 ⟨rfl, hb8⟩
    have S8 := HS7.out.below hb8
    have HS8 := Lib.hid S8
    have C8 := own_box (HS8.out.own 0 _ rfl)
    have D8 := own_box (HS8.out.own 5 _ rfl)
    clear S8 hb8 C6
    go_wp2_with fail
    refine (toInstructionS_any Ap np cp ps _ (hp.keep HS8.out.bel) hnp).mono ?_
    rintro e w9 ⟨A9, c9, rfl, ho9, hb9⟩
    have S9 := HS8.out.new hb9 ho9
    simp only [List.nil_append, List.cons_append] at S9
    have HS9 := Lib.hid S9
    clear S9 ho9 hb9 C8 D8
    go_wp2_with fail
    refine (eqInstructionS_same A5 A9 np c5 c9 ps _ (HS9.out.rd 3 rfl) (HS9.out.rd 6 rfl) hnp).mono ?_
    rintro e w10 ⟨rfl, hb10⟩
    have S10 := (HS9.out.below hb10).below (Below.drew (Below.refl _ _))
    have C10 := own_box (S10.own 0 _ rfl)
    have D10 := own_box (S10.own 5 _ rfl)
    clear hb10
    go_wp2_with fail
    go_region_with (first
      | (go_at_call 27; refine (toRegisters_any A n c rs a z s _ (hr.keep S10.bel) hn2).mono ?_; rintro e w11 ⟨A11, c11, rfl, ho11, hb11⟩; have S11 := S10.new hb11 ho11; have D11 := own_box (S11.own 5 _ rfl))
      | (go_at_call 29; refine (eqRegisters_same A6 A11 n c6 c11 rs a z s _ (S11.rd 4 rfl) (S11.rd 7 rfl) hn2).mono ?_; rintro e w12 ⟨rfl, hb12⟩; have S12 := S11.below hb12))
    all_goals
      have HS12 := Lib.hid S12
      clear S12
      go_wp2
      go_ret
      exact ⟨rfl, HS12.out.bel⟩
end Go.Proofs.Ytdlgohndocpmjaa
