/- Contracts of IsProgram in the program and in the reference. Lengths at most 2^20. -/
import Derived.Test.YtlahpnihnpmgoaaStInstruction
import Derived.Test.YtlahpnihnpmgoaaGa
namespace Go.Proofs.Ytlahpnihnpmgoaa
open Go.RowKit
set_option linter.unusedVariables false
set_option linter.unusedSimpArgs false

/-- no instruction -/
def badIns (x : RInstruction) : Bool := !insB x.f0 x.f1 x.f2 x.f3
/-- is it a program -/
def progB (xs : List RInstruction) : Bool := inB xs.length 1 16 && !xs.any badIns

set_option maxHeartbeats 1000000 in
theorem isProgram1_any (x : RInstruction) (w : World) (b : Bool) (hb : badIns x = b) :
    Calls Try.prog 51 #[vInstruction x] w fun e w' => e = .returned (.bool b) ∧ Below w.heap.size w w' := by
  subst hb
  go_enter Try.func51, Try.ntmps51
  go_wp2_with fail
  refine (i_IsInstruction_any x.f0 x.f1 x.f2 x.f3 _).mono ?_
  rintro e w1 ⟨rfl, hb⟩
  go_wp2
  go_ret
  exact ⟨rfl, below_next (below_alloc _ _) hb⟩

set_option maxHeartbeats 1000000 in
theorem i_IsProgram_eq (A : Option Addr) (n c : Nat) (xs : List RInstruction) (w : World) (hr : Rd w 4 A n (J cInstruction xs)) (hn : n ≤ 4503599627370496) (r : Bool) (hR : progB xs = r) :
    Calls Try.prog 26 #[.slice A n c] w fun e w' => e = .returned (.bool r) ∧ Below w.heap.size w w' := by
  have hl := hr.lenS posInstruction cInstruction_len
  unfold progB at hR
  rw [hl] at hR
  cases hT : inB n 1 16
  all_goals have HT := Lib.hid hT
  all_goals rw [hT] at hR
  all_goals clear hT hl
  · subst hR
    go_enter Try.func26, Try.ntmps26
    go_wp2_with fail
    refine (inside_eq HT.out _).mono ?_
    rintro e w1 ⟨rfl, rfl⟩
    go_wp2
    go_ret
    exact ⟨rfl, Below.refl _ _⟩
  · cases hP : xs.any badIns
    all_goals have HP := Lib.hid hP
    all_goals rw [hP] at hR
    all_goals clear hP
    all_goals subst hR
    all_goals
      go_enter Try.func26, Try.ntmps26
      go_wp2_with fail
      refine (inside_eq HT.out _).mono ?_
      rintro e w1 ⟨rfl, rfl⟩
      go_wp2_with fail
      refine (containsFuncInstruction _ (fun _ _ => by kernel_rfl) badIns (fun x w b hb => isProgram1_any x w b hb) _ _ _ xs _ hr hn _ HP.out).mono ?_
      rintro e w1 ⟨rfl, hb⟩
      go_wp2
      go_ret
      exact ⟨rfl, hb⟩

set_option maxHeartbeats 1000000 in
theorem l3Program_eq (A : Option Addr) (n c : Nat) (xs : List RInstruction) (w : World) (hr : Rd w 4 A n (J cInstruction xs)) (hn : n ≤ 4503599627370496) (r : Bool) (hR : progB xs = r) :
    Calls Try.prog 27 #[.slice A n c] w fun e w' => e = .returned (.bool r) ∧ Below w.heap.size w w' := by
  have HL := Lib.hid (hr.lenS posInstruction cInstruction_len)
  have HR := Lib.hid hR
  clear hR
  go_enter Try.func27, Try.ntmps27
  go_wp2
  go_loopw [3] (fun i wr => ∃ k : Nat, k ≤ n ∧ i = .int .i64 k ∧ Hid ((xs.take k).any badIns = false) ∧ Below w.heap.size w wr) (fun i _ => n - (intOf i).toNat)
  case atStart => exact ⟨0, Nat.zero_le _, rfl, by rfl, Below.refl _ _⟩
  case round =>
    obtain ⟨k, hk, rfl, ht, hB⟩ := hrel
    by_cases hlt : k < n
    · obtain ⟨b, o, x, rfl, hbl, hxk, hc0, hc1, hc2, hc3⟩ := atInstruction (hr.keep hB) hlt
      cases h1 : badIns x
      all_goals have H1 := Lib.hid h1
      · have H2 := Lib.hid (show insB x.f0 x.f1 x.f2 x.f3 = true by simpa [badIns] using h1)
        clear h1
        go_wp2_with fail
        refine (l3One_eq H2.out _).mono ?_
        rintro e w1 ⟨rfl, hb⟩
        go_wp2
        go_roundw
        case rel => exact ⟨k + 1, by omega, by go_num, any_snocA ht.out hxk.out H1.out, below_next hB hb⟩
        case measure => simp [intOf]; omega
      · have H2 := Lib.hid (show insB x.f0 x.f1 x.f2 x.f3 = false by simpa [badIns] using h1)
        clear h1
        go_wp2_with fail
        refine (l3One_eq H2.out _).mono ?_
        rintro e w1 ⟨rfl, hb⟩
        go_wp2
        go_ret
        refine ⟨ret_bool ?_, below_next hB hb⟩
        rw [← HR.out]
        have : xs.any badIns = true := List.any_eq_true.2 ⟨x, List.mem_of_getElem? hxk.out, H1.out⟩
        simp [progB, this]
    · have h := ht.out
      rw [List.take_of_length_le (by have := HL.out; omega)] at h
      have HQ := Lib.hid (show inB (n : Int) 1 16 = r by rw [← HR.out, progB, h, HL.out]; simp)
      clear h
      go_wp2_with fail
      refine (l1In_eq HQ.out _).mono ?_
      rintro e w1 ⟨rfl, rfl⟩
      go_wp2
      go_ret
      exact ⟨rfl, hB⟩

theorem i_IsProgram_any (A : Option Addr) (n c : Nat) (xs : List RInstruction) (w : World) (hr : Rd w 4 A n (J cInstruction xs)) (hn : n ≤ 1048576) :
    Calls Try.prog 26 #[.slice A n c] w fun e w' => e = .returned (.bool (progB xs)) ∧ Below w.heap.size w w' := i_IsProgram_eq A n c xs w hr (by omega) _ rfl
end Go.Proofs.Ytlahpnihnpmgoaa
