/- Contracts of AreIrqs in the program and in the reference. Lengths at most 2^20. -/
import Derived.Test.YtidohojjlinfmaaStIrq
namespace Go.Proofs.Ytidohojjlinfmaa
open Go.RowKit
set_option linter.unusedVariables false
set_option linter.unusedSimpArgs false

set_option maxHeartbeats 400000 in
theorem isPriority_eq {x : Int} {r : Bool} (h : inB x 0 15 = r) (w : World) :
    Calls Try.prog 21 #[.int .i64 x] w fun e w' => e = .returned (.bool r) ∧ w = w' := by
  have H := Lib.hid h
  clear h
  go_enter Try.func21, Try.ntmps21
  go_wp2_with fail
  refine (inside_eq H.out _).mono ?_
  rintro e w1 ⟨rfl, rfl⟩
  go_wp2
  go_ret
  exact ⟨rfl, rfl⟩

set_option maxHeartbeats 400000 in
theorem isCpu_eq {x : Int} {r : Bool} (h : inB x 0 3 = r) (w : World) :
    Calls Try.prog 22 #[.int .i64 x] w fun e w' => e = .returned (.bool r) ∧ w = w' := by
  have H := Lib.hid h
  clear h
  go_enter Try.func22, Try.ntmps22
  go_wp2_with fail
  refine (inside_eq H.out _).mono ?_
  rintro e w1 ⟨rfl, rfl⟩
  go_wp2
  go_ret
  exact ⟨rfl, rfl⟩

set_option maxHeartbeats 400000 in
theorem l6Prio_eq {x : Int} {r : Bool} (h : inB x 0 15 = r) (w : World) :
    Calls Try.prog 29 #[.int .i64 x] w fun e w' => e = .returned (.bool r) ∧ w = w' := by
  have H := Lib.hid h
  clear h
  go_enter Try.func29, Try.ntmps29
  go_wp2_with fail
  refine (l1In_eq H.out _).mono ?_
  rintro e w1 ⟨rfl, rfl⟩
  go_wp2
  go_ret
  exact ⟨rfl, rfl⟩

set_option maxHeartbeats 400000 in
theorem l6Cpu_eq {x : Int} {r : Bool} (h : inB x 0 3 = r) (w : World) :
    Calls Try.prog 30 #[.int .i64 x] w fun e w' => e = .returned (.bool r) ∧ w = w' := by
  have H := Lib.hid h
  clear h
  go_enter Try.func30, Try.ntmps30
  go_wp2_with fail
  refine (l1In_eq H.out _).mono ?_
  rintro e w1 ⟨rfl, rfl⟩
  go_wp2
  go_ret
  exact ⟨rfl, rfl⟩

/-- no irq -/
def badIrq (x : RIrq) : Bool := !(inB x.f3 0 15 && inB x.f4 0 3)
def irqB (xs : List RIrq) : Bool := decide (xs.length = 8) && !xs.any badIrq

set_option maxHeartbeats 1000000 in
theorem areIrqs1_any (x : RIrq) (w : World) (b : Bool) (hb : badIrq x = b) :
    Calls Try.prog 20 #[vIrq x] w fun e w' => e = .returned (.bool b) ∧ Below w.heap.size w w' := by
  cases h1 : inB x.f3 0 15
  all_goals have H1 := Lib.hid h1
  · obtain rfl : true = b := by rw [← hb]; simp [badIrq, h1]
    clear h1 hb
    go_enter Try.func20, Try.ntmps20
    go_wp2_with fail
    refine (isPriority_eq H1.out _).mono ?_
    rintro e w1 ⟨rfl, rfl⟩
    go_wp2
    go_ret
    exact ⟨rfl, below_alloc _ _⟩
  · cases h2 : inB x.f4 0 3
    all_goals have H2 := Lib.hid h2
    · obtain rfl : true = b := by rw [← hb]; simp [badIrq, h2]
      clear h1 h2 hb
      go_enter Try.func20, Try.ntmps20
      go_wp2_with fail
      refine (isPriority_eq H1.out _).mono ?_
      rintro e w1 ⟨rfl, rfl⟩
      go_wp2_with fail
      refine (isCpu_eq H2.out _).mono ?_
      rintro e w1 ⟨rfl, rfl⟩
      go_wp2
      go_ret
      exact ⟨rfl, below_alloc _ _⟩
    · obtain rfl : false = b := by rw [← hb]; simp [badIrq, h1, h2]
      clear h1 h2 hb
      go_enter Try.func20, Try.ntmps20
      go_wp2_with fail
      refine (isPriority_eq H1.out _).mono ?_
      rintro e w1 ⟨rfl, rfl⟩
      go_wp2_with fail
      refine (isCpu_eq H2.out _).mono ?_
      rintro e w1 ⟨rfl, rfl⟩
      go_wp2
      go_ret
      exact ⟨rfl, below_alloc _ _⟩

set_option maxHeartbeats 1000000 in
theorem i_AreIrqs_eq (A : Option Addr) (n c : Nat) (xs : List RIrq) (w : World) (hr : Rd w 5 A n (J cIrq xs)) (hn : n ≤ 4503599627370496) (r : Bool) (hR : irqB xs = r) :
    Calls Try.prog 9 #[.slice A n c] w fun e w' => e = .returned (.bool r) ∧ Below w.heap.size w w' := by
  have hl := hr.lenS posIrq cIrq_len
  unfold irqB at hR
  rw [hl] at hR
  by_cases h8 : n = 8
  · subst h8
    cases hP : xs.any badIrq
    all_goals have HP := Lib.hid hP
    all_goals rw [hP] at hR
    all_goals clear hP hl
    all_goals simp at hR
    all_goals subst hR
    all_goals
      go_enter Try.func9, Try.ntmps9
      go_wp2_with fail
      refine (containsFuncIrq _ (fun _ _ => by kernel_rfl) badIrq (fun x w b hb => areIrqs1_any x w b hb) _ _ _ xs _ hr hn _ HP.out).mono ?_
      rintro e w1 ⟨rfl, hb⟩
      go_wp2
      go_ret
      exact ⟨rfl, hb⟩
  · have h9 : ((n : Int) == 8) = false := by simp; omega
    obtain rfl : false = r := by rw [← hR]; simp [h8]
    clear hR h8 hl
    go_enter Try.func9, Try.ntmps9
    go_wp2
    go_ret
    exact ⟨rfl, Below.refl _ _⟩

set_option maxHeartbeats 1000000 in
theorem l6Good_eq (A : Option Addr) (n c : Nat) (xs : List RIrq) (w : World) (hr : Rd w 5 A n (J cIrq xs)) (hn : n ≤ 4503599627370496) (r : Bool) (hR : irqB xs = r) :
    Calls Try.prog 17 #[.slice A n c] w fun e w' => e = .returned (.bool r) ∧ Below w.heap.size w w' := by
  have HL := Lib.hid (hr.lenS posIrq cIrq_len)
  have HR := Lib.hid hR
  clear hR
  go_enter Try.func17, Try.ntmps17
  go_wp2
  go_loopw [3] (fun i wr => ∃ k : Nat, k ≤ n ∧ i = .int .i64 k ∧ Hid ((xs.take k).any badIrq = false) ∧ Below w.heap.size w wr) (fun i _ => n - (intOf i).toNat)
  case atStart => exact ⟨0, Nat.zero_le _, rfl, by rfl, Below.refl _ _⟩
  case round =>
    obtain ⟨k, hk, rfl, ht, hB⟩ := hrel
    by_cases hlt : k < n
    · obtain ⟨b, o, x, rfl, hbl, hxk, hc0, hc1, hc2, hc3, hc4⟩ := atIrq (hr.keep hB) hlt
      cases h1 : inB x.f3 0 15
      all_goals have H1 := Lib.hid h1
      · have HX : Hid (badIrq x = true) := by show badIrq x = true; simp [badIrq, h1]
        clear h1
        go_wp2_with fail
        refine (l6Prio_eq H1.out _).mono ?_
        rintro e w1 ⟨rfl, rfl⟩
        go_wp2
        go_ret
        refine ⟨ret_bool ?_, hB⟩
        rw [← HR.out]
        have : xs.any badIrq = true := List.any_eq_true.2 ⟨x, List.mem_of_getElem? hxk.out, HX.out⟩
        simp [irqB, this]
      · cases h2 : inB x.f4 0 3
        all_goals have H2 := Lib.hid h2
        · have HX : Hid (badIrq x = true) := by show badIrq x = true; simp [badIrq, h2]
          clear h1 h2
          go_wp2_with fail
          refine (l6Prio_eq H1.out _).mono ?_
          rintro e w1 ⟨rfl, rfl⟩
          go_wp2_with fail
          refine (l6Cpu_eq H2.out _).mono ?_
          rintro e w1 ⟨rfl, rfl⟩
          go_wp2
          go_ret
          refine ⟨ret_bool ?_, hB⟩
          rw [← HR.out]
          have : xs.any badIrq = true := List.any_eq_true.2 ⟨x, List.mem_of_getElem? hxk.out, HX.out⟩
          simp [irqB, this]
        · have HX : Hid (badIrq x = false) := by show badIrq x = false; simp [badIrq, h1, h2]
          clear h1 h2
          go_wp2_with fail
          refine (l6Prio_eq H1.out _).mono ?_
          rintro e w1 ⟨rfl, rfl⟩
          go_wp2_with fail
          refine (l6Cpu_eq H2.out _).mono ?_
          rintro e w1 ⟨rfl, rfl⟩
          go_wp2
          go_roundw
          case rel => exact ⟨k + 1, by omega, by go_num, any_snocA ht.out hxk.out HX.out, hB⟩
          case measure => simp [intOf]; omega
    · go_wp2
      go_ret
      refine ⟨ret_bool ?_, hB⟩
      rw [← HR.out]
      have h := ht.out
      rw [List.take_of_length_le (by have := HL.out; omega)] at h
      have hl := HL.out
      rw [Bool.eq_iff_iff]
      simp [irqB, h, hl]; omega

theorem s_AreIrqs_any (A : Option Addr) (n c : Nat) (xs : List RIrq) (w : World) (hr : Rd w 5 A n (J cIrq xs)) (hn : n ≤ 1048576) :
    Calls Try.prog 7 #[.slice A n c] w fun e w' => e = .returned (.bool (irqB xs)) ∧ Below w.heap.size w w' := by
  go_enter Try.func7, Try.ntmps7
  go_wp2_with fail
  refine (l6Good_eq _ _ _ xs _ hr (by omega) _ rfl).mono ?_
  rintro e w1 ⟨rfl, hb⟩
  go_wp2
  go_ret
  exact ⟨rfl, hb⟩
theorem i_AreIrqs_any (A : Option Addr) (n c : Nat) (xs : List RIrq) (w : World) (hr : Rd w 5 A n (J cIrq xs)) (hn : n ≤ 1048576) :
    Calls Try.prog 9 #[.slice A n c] w fun e w' => e = .returned (.bool (irqB xs)) ∧ Below w.heap.size w w' := i_AreIrqs_eq A n c xs w hr (by omega) _ rfl
end Go.Proofs.Ytidohojjlinfmaa
