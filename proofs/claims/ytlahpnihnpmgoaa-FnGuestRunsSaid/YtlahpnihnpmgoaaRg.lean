/- Contracts on registers: szIntS, szRegisters, toRegisters, eqRegisters, AreRegisters. Lengths at most 2^20 where memory is made. -/
import Derived.Test.YtlahpnihnpmgoaaPrA
import Derived.Deep.RegionWith
namespace Go.Proofs.Ytlahpnihnpmgoaa
open Go.RowKit
set_option linter.unusedVariables false
set_option linter.unusedSimpArgs false

abbrev regV (A : Option Addr) (n c : Nat) (a : Int) (z s : Bool) : Value := .agg #[.slice A n c, .int .i64 a, .bool z, .bool s]
/-- are these registers of the program -/
def regB (ps : List RInstruction) (rs : List Int) (a : Int) : Bool := progB ps && (decide (rs.length = 4) && (!rs.any (fun x => !inB x 0 65535) && inB a 0 ((ps.length : Int) - 1)))
set_option maxHeartbeats 400000 in
theorem isWord16_eq {x : Int} {r : Bool} (h : inB x 0 65535 = r) (w : World) :
    Calls Try.prog 47 #[.int .i64 x] w fun e w' => e = .returned (.bool r) ∧ w = w' := by
  have H := Lib.hid h
  clear h
  go_enter Try.func47, Try.ntmps47
  go_wp2_with fail
  refine (inside_eq H.out _).mono ?_
  rintro e w1 ⟨rfl, rfl⟩
  go_wp2
  go_ret
  exact ⟨rfl, rfl⟩
set_option maxHeartbeats 400000 in
theorem areRegisters1_any (x : Int) (w : World) (b : Bool) (hb : (!inB x 0 65535) = b) :
    Calls Try.prog 46 #[.int .i64 x] w fun e w' => e = .returned (.bool b) ∧ w = w' := by
  cases h : inB x 0 65535
  all_goals
    have H := Lib.hid h
    rw [h] at hb
    clear h
    subst hb
    go_enter Try.func46, Try.ntmps46
    go_wp2_with fail
    refine (isWord16_eq H.out _).mono ?_
    rintro e w1 ⟨rfl, rfl⟩
    go_wp2
    go_ret
    exact ⟨rfl, rfl⟩

set_option maxHeartbeats 2000000 in
theorem i_AreRegisters_eq (Ap : Option Addr) (np cp : Nat) (ps : List RInstruction) (A : Option Addr) (n c : Nat) (rs : List Int) (a : Int) (z s : Bool) (w : World) (hp : Rd w 4 Ap np (J cInstruction ps)) (hr : Rd w 1 A n (I rs)) (hnp : np ≤ 1048576) (hn : n ≤ 1048576) (r : Bool) (hR : regB ps rs a = r) :
    Calls Try.prog 20 #[.slice Ap np cp, regV A n c a z s] w fun e w' => e = .returned (.bool r) ∧ Below w.heap.size w w' := by
  have hlp := hp.lenS posInstruction cInstruction_len
  have hl := hr.len
  have B0 := Box.new w 37 #[.slice A n c, .int .i64 a, .bool z, .bool s]
  have HB0 := Lib.hid B0
  clear B0
  unfold regB at hR
  rw [hl, hlp] at hR
  cases h1 : progB ps
  all_goals have H1 := Lib.hid h1
  all_goals rw [h1] at hR
  all_goals clear h1 hl hlp
  · obtain rfl : false = r := by rw [← hR]; rfl
    clear hR
    go_enter Try.func20, Try.ntmps20
    go_wp2_with fail
    refine (i_IsProgram_eq _ _ _ ps _ (hp.keep (below_alloc _ _)) (by omega) _ H1.out).mono ?_
    rintro e w1 ⟨rfl, hb⟩
    have C0 := (HB0.out.keep hb).cell
    go_wp2
    go_ret
    exact ⟨rfl, below_next (below_alloc _ _) hb⟩
  · simp only [Bool.true_and] at hR
    by_cases h4 : n = 4
    · subst h4
      cases h2 : rs.any (fun x => !inB x 0 65535)
      all_goals have H2 := Lib.hid h2
      all_goals rw [h2] at hR
      all_goals clear h2
      · simp only [decide_true, Bool.not_false, Bool.true_and] at hR
        have HR := Lib.hid hR
        clear hR
        go_enter Try.func20, Try.ntmps20
        go_wp2_with fail
        refine (i_IsProgram_eq _ _ _ ps _ (hp.keep (below_alloc _ _)) (by omega) _ H1.out).mono ?_
        rintro e w1 ⟨rfl, hb⟩
        have C0 := (HB0.out.keep hb).cell
        go_wp2_with fail
        refine (containsFunc_any _ (fun _ _ => by kernel_rfl) (fun x => !inB x 0 65535) (fun x w b hb => areRegisters1_any x w b hb) _ _ _ rs _ (hr.keep (below_next (below_alloc _ _) hb)) (by omega) _ H2.out).mono ?_
        rintro e w2 ⟨rfl, rfl⟩
        go_wp2_with fail
        refine (inside_eq HR.out _).mono ?_
        rintro e w2 ⟨rfl, rfl⟩
        go_wp2
        go_ret
        exact ⟨rfl, below_next (below_alloc _ _) hb⟩
      · obtain rfl : false = r := by rw [← hR]; simp
        clear hR
        go_enter Try.func20, Try.ntmps20
        go_wp2_with fail
        refine (i_IsProgram_eq _ _ _ ps _ (hp.keep (below_alloc _ _)) (by omega) _ H1.out).mono ?_
        rintro e w1 ⟨rfl, hb⟩
        have C0 := (HB0.out.keep hb).cell
        go_wp2_with fail
        refine (containsFunc_any _ (fun _ _ => by kernel_rfl) (fun x => !inB x 0 65535) (fun x w b hb => areRegisters1_any x w b hb) _ _ _ rs _ (hr.keep (below_next (below_alloc _ _) hb)) (by omega) _ H2.out).mono ?_
        rintro e w2 ⟨rfl, rfl⟩
        go_wp2
        go_ret
        exact ⟨rfl, below_next (below_alloc _ _) hb⟩
    · have h9 : ((n : Int) == 4) = false := by simp; omega
      obtain rfl : false = r := by rw [← hR]; simp [h4]
      clear hR h4
      go_enter Try.func20, Try.ntmps20
      go_wp2_with fail
      refine (i_IsProgram_eq _ _ _ ps _ (hp.keep (below_alloc _ _)) (by omega) _ H1.out).mono ?_
      rintro e w1 ⟨rfl, hb⟩
      have C0 := (HB0.out.keep hb).cell
      go_wp2
      go_ret
      exact ⟨rfl, below_next (below_alloc _ _) hb⟩

set_option maxHeartbeats 2000000 in
theorem l3Good_eq (Ap : Option Addr) (np cp : Nat) (ps : List RInstruction) (A : Option Addr) (n c : Nat) (rs : List Int) (a : Int) (z s : Bool) (w : World) (hp : Rd w 4 Ap np (J cInstruction ps)) (hr : Rd w 1 A n (I rs)) (hnp : np ≤ 1048576) (hn : n ≤ 1048576) (r : Bool) (hR : regB ps rs a = r) :
    Calls Try.prog 41 #[.slice Ap np cp, regV A n c a z s] w fun e w' => e = .returned (.bool r) ∧ Below w.heap.size w w' := by
  have hlp := hp.lenS posInstruction cInstruction_len
  have hl := hr.len
  have HL := Lib.hid hl
  have B0 := Box.new w 37 #[.slice A n c, .int .i64 a, .bool z, .bool s]
  have HB0 := Lib.hid B0
  clear B0
  unfold regB at hR
  rw [hl, hlp] at hR
  cases h1 : progB ps
  all_goals have H1 := Lib.hid h1
  all_goals rw [h1] at hR
  all_goals clear h1 hl hlp
  · obtain rfl : false = r := by rw [← hR]; rfl
    clear hR
    go_enter Try.func41, Try.ntmps41
    go_wp2_with fail
    refine (l3Program_eq _ _ _ ps _ (hp.keep (below_alloc _ _)) (by omega) _ H1.out).mono ?_
    rintro e w1 ⟨rfl, hb⟩
    go_wp2
    go_ret
    exact ⟨rfl, below_next (below_alloc _ _) hb⟩
  · simp only [Bool.true_and] at hR
    by_cases h4 : n = 4
    · subst h4
      cases h2 : inB a 0 ((np : Int) - 1)
      all_goals have H2 := Lib.hid h2
      all_goals rw [h2] at hR
      all_goals clear h2
      · obtain rfl : false = r := by rw [← hR]; simp
        clear hR
        go_enter Try.func41, Try.ntmps41
        go_wp2_with fail
        refine (l3Program_eq _ _ _ ps _ (hp.keep (below_alloc _ _)) (by omega) _ H1.out).mono ?_
        rintro e w1 ⟨rfl, hb⟩
        have C0 := (HB0.out.keep hb).cell
        go_wp2_with fail
        refine (l1In_eq H2.out _).mono ?_
        rintro e w2 ⟨rfl, rfl⟩
        go_wp2
        go_ret
        exact ⟨rfl, below_next (below_alloc _ _) hb⟩
      · simp only [decide_true, Bool.true_and, Bool.and_true] at hR
        have HR := Lib.hid hR
        clear hR
        go_enter Try.func41, Try.ntmps41
        go_wp2_with fail
        refine (l3Program_eq _ _ _ ps _ (hp.keep (below_alloc _ _)) (by omega) _ H1.out).mono ?_
        rintro e w1 ⟨rfl, hb⟩
        have C0 := (HB0.out.keep hb).cell
        have hr1 := hr.keep (below_next (below_alloc _ _) hb)
        have HB := Lib.hid (below_next (below_alloc _ _) hb)
        clear hb
        go_wp2_with fail
        refine (l1In_eq H2.out _).mono ?_
        rintro e w2 ⟨rfl, rfl⟩
        go_wp2
        go_loop [5] (fun i => ∃ k : Nat, k ≤ 4 ∧ i = .int .i64 k ∧ Hid ((rs.take k).any (fun x => !inB x 0 65535) = false)) (fun i => 4 - (intOf i).toNat)
        case atStart => exact ⟨0, Nat.zero_le _, rfl, by rfl⟩
        case round =>
          obtain ⟨k, hk, rfl, ht⟩ := hrel
          by_cases hlt : k < 4
          · obtain ⟨b, o, x, rfl, hbl, hxk, hc⟩ := hr1.at_ hlt
            cases hx : inB x 0 65535
            all_goals have HX := Lib.hid hx
            all_goals clear hx
            · go_wp2_with fail
              refine (l1In_eq HX.out _).mono ?_
              rintro e w2 ⟨rfl, rfl⟩
              go_wp2
              go_ret
              refine ⟨ret_bool ?_, HB.out⟩
              rw [← HR.out]
              have : rs.any (fun x => !inB x 0 65535) = true := List.any_eq_true.2 ⟨x, List.mem_of_getElem? hxk.out, by simp [HX.out]⟩
              simp [this]
            · go_wp2_with fail
              refine (l1In_eq HX.out _).mono ?_
              rintro e w2 ⟨rfl, rfl⟩
              go_wp2
              go_round
              case rel => exact ⟨k + 1, by omega, by go_num, any_snoc ht.out hxk.out (by simp [HX.out])⟩
              case measure => simp [intOf]; omega
          · have hk4 : k = 4 := by omega
            subst hk4
            go_wp2
            go_ret
            refine ⟨ret_bool ?_, HB.out⟩
            rw [← HR.out]
            have h := ht.out
            rw [List.take_of_length_le (by have := HL.out; omega)] at h
            simp [h]
    · have h9 : ((n : Int) != 4) = true := by simp; omega
      obtain rfl : false = r := by rw [← hR]; simp [h4]
      clear hR h4
      go_enter Try.func41, Try.ntmps41
      go_wp2_with fail
      refine (l3Program_eq _ _ _ ps _ (hp.keep (below_alloc _ _)) (by omega) _ H1.out).mono ?_
      rintro e w1 ⟨rfl, hb⟩
      have C0 := (HB0.out.keep hb).cell
      go_wp2
      go_ret
      exact ⟨rfl, below_next (below_alloc _ _) hb⟩
theorem i_AreRegisters_any (Ap : Option Addr) (np cp : Nat) (ps : List RInstruction) (A : Option Addr) (n c : Nat) (rs : List Int) (a : Int) (z s : Bool) (w : World) (hp : Rd w 4 Ap np (J cInstruction ps)) (hr : Rd w 1 A n (I rs)) (hnp : np ≤ 1048576) (hn : n ≤ 1048576) :
    Calls Try.prog 20 #[.slice Ap np cp, regV A n c a z s] w fun e w' => e = .returned (.bool (regB ps rs a)) ∧ Below w.heap.size w w' := i_AreRegisters_eq Ap np cp ps A n c rs a z s w hp hr hnp hn _ rfl
end Go.Proofs.Ytlahpnihnpmgoaa
