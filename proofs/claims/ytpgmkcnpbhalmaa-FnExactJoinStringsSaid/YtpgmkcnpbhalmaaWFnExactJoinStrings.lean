/- The walk of the law FnExactJoinStrings through its contracts. FnExactJoinStrings returns true for all arguments. No conditions. -/
import Derived.Test.YtpgmkcnpbhalmaaSj
import Derived.Test.YtpgmkcnpbhalmaaOpT
namespace Go.Proofs.Ytpgmkcnpbhalmaa
open Go.RowKit
set_option linter.unusedVariables false
set_option linter.unusedSimpArgs false

set_option maxHeartbeats 4000000 in
theorem walk_FnExactJoinStrings (A : Option Addr) (n c : Nat) (xs : List (List UInt8)) (q : ByteArray) (w : World) (rA : Rd w 1 A n (T xs)) (hm : n ≤ maxLen) (hwf : ∀ x ∈ xs, wfT x) (hsq : q.size ≤ maxLen) :
    Calls Try.prog 7 #[.slice A n c, .string q] w fun e w' => e = .returned (.bool true) ∧ Below w.heap.size w w' := by
  obtain ⟨lq, rfl⟩ : ∃ l : List UInt8, q = ⟨l.toArray⟩ := ⟨q.data.toList, by cases q; simp⟩
  unfold maxLen at hm
  by_cases hnq : lq.length ≤ 1048576
  rotate_left
  · have hzq : (1048576 : Int) < (lq.length : Int) := by omega
    go_enter Try.func7, Try.ntmps7
    go_wp2
    go_ret
    exact ⟨rfl, Below.refl _ _⟩
  have hzq : ¬ (1048576 : Int) < (lq.length : Int) := by omega
  have HWF := Lib.hid hwf
  clear hwf
  have S0 := Sep.start w
  go_enter Try.func7, Try.ntmps7
  go_wp2_with fail
  refine (szStringS_any A n c xs _ rA hm HWF.out).mono ?_
  rintro e w0 ⟨r, rfl, rfl, hr⟩
  rcases hr with hr | ⟨hr, hsum⟩
  · go_wp2
    go_ret
    exact ⟨rfl, Below.refl _ _⟩
  have hn : n ≤ 1048576 := by omega
  have hL : Lib.lens xs ≤ 1048576 := by omega
  have hr' : ¬ r < 0 := by omega
  clear hr
  go_wp2_with fail
  refine (toStringS_any A n c xs _ (rA.sep S0) (by omega)).mono ?_
  rintro e w1 ⟨A1, c1, rfl, ho1, hb1⟩
  have S1 := S0.new hb1 ho1
  simp only [List.nil_append] at S1
  clear ho1 hb1
  go_wp2_with fail
  refine (s_JoinStrings_any A1 n c1 xs lq _ (S1.rd 0 rfl) hn hL hnq).mono ?_
  rintro e w2 ⟨rfl, hb2⟩
  have S2 := S1.below hb2
  clear S1 hb2
  go_wp2_with fail
  refine (toStringS_any A n c xs _ (rA.sep S2) (by omega)).mono ?_
  rintro e w3 ⟨A3, c3, rfl, ho3, hb3⟩
  have S3 := S2.new hb3 ho3
  simp only [List.cons_append, List.nil_append] at S3
  clear S2 ho3 hb3
  go_wp2_with fail
  refine (i_JoinStrings_any A3 n c3 xs lq _ (S3.rd 1 rfl) hn hL (ownT_cap (S3.own 1 _ rfl)).1 hnq).mono ?_
  rintro e w4 ⟨rfl, hb4⟩
  have S4 := S3.below hb4
  clear S3 hb4
  go_wp2_with fail
  refine (toStringS_any A n c xs _ (rA.sep S4) (by omega)).mono ?_
  rintro e w5 ⟨A5, c5, rfl, ho5, hb5⟩
  have S5 := S4.new hb5 ho5
  simp only [List.cons_append, List.nil_append] at S5
  clear S4 ho5 hb5
  go_wp2_with fail
  refine (eqStringS_same A3 A5 n c3 c5 xs _ (S5.rd 1 rfl) (S5.rd 2 rfl) (by omega)).mono ?_
  rintro e w6 ⟨rfl, hb6⟩
  have S6 := S5.below hb6
  clear S5 hb6
  go_wp2
  go_ret
  exact ⟨rfl, S6.bel⟩
end Go.Proofs.Ytpgmkcnpbhalmaa
