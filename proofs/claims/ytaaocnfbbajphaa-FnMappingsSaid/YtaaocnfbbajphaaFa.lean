/- Contracts of the predicates on owners: inside, l1In, l2Good, AreOwners. Lengths at most 2^52. -/
import Derived.Test.YtaaocnfbbajphaaSmall
namespace Go.Proofs.Ytaaocnfbbajphaa
open Go.RowKit
set_option linter.unusedVariables false
set_option linter.unusedSimpArgs false

set_option maxHeartbeats 400000 in
theorem areOwners1_any (x : Int) (w : World) :
    Calls Try.prog 87 #[.int .i64 x] w fun e w' => e = .returned (.bool (!(inB x 0 4))) ∧ w = w' := by
  go_enter Try.func87, Try.ntmps87
  go_wp2_with fail
  refine (inside_any _ _ _ _).mono ?_
  rintro e w1 ⟨rfl, rfl⟩
  go_wp2
  go_ret
  exact ⟨rfl, rfl⟩


/-- are these owners -/
def ownB (xs : List Int) : Bool := inB xs.length 1 16 && !xs.any (fun x => !inB x 0 4)

set_option maxHeartbeats 400000 in
theorem i_AreOwners_eq (A : Option Addr) (n c : Nat) (xs : List Int) (w : World) (hr : Rd w 1 A n (I xs)) (hn : n ≤ 4503599627370496) (r : Bool) (hR : ownB xs = r) :
    Calls Try.prog 69 #[.slice A n c] w fun e w' => e = .returned (.bool r) ∧ w = w' := by
  have hl := hr.len
  unfold ownB at hR
  rw [hl] at hR
  cases hT : inB n 1 16
  all_goals have HT := Lib.hid hT
  all_goals rw [hT] at hR
  all_goals clear hT hl
  · subst hR
    go_enter Try.func69, Try.ntmps69
    go_wp2_with fail
    refine (inside_eq HT.out _).mono ?_
    rintro e w1 ⟨rfl, rfl⟩
    go_wp2
    go_ret
    exact ⟨rfl, rfl⟩
  · cases hP : xs.any (fun x => !inB x 0 4)
    all_goals have HP := Lib.hid hP
    all_goals rw [hP] at hR
    all_goals clear hP
    all_goals subst hR
    all_goals
      go_enter Try.func69, Try.ntmps69
      go_wp2_with fail
      refine (inside_eq HT.out _).mono ?_
      rintro e w1 ⟨rfl, rfl⟩
      go_wp2_with fail
      refine (containsFunc_any _ (fun _ _ => by kernel_rfl) (fun x => !inB x 0 4) (fun x w b hb => by subst hb; exact areOwners1_any x w) _ _ _ xs _ hr hn _ HP.out).mono ?_
      rintro e w1 ⟨rfl, rfl⟩
      go_wp2
      go_ret
      exact ⟨rfl, rfl⟩

set_option maxHeartbeats 400000 in
theorem l2Good_eq (A : Option Addr) (n c : Nat) (xs : List Int) (w : World) (hr : Rd w 1 A n (I xs)) (hn : n ≤ 4503599627370496) (r : Bool) (hR : ownB xs = r) :
    Calls Try.prog 67 #[.slice A n c] w fun e w' => e = .returned (.bool r) ∧ w = w' := by
  have hl := hr.len
  have HR := Lib.hid hR
  clear hR
  go_enter Try.func67, Try.ntmps67
  go_wp2
  go_loop [3] (fun i => ∃ k : Nat, k ≤ n ∧ i = .int .i64 k ∧ Hid ((xs.take k).any (fun x => !inB x 0 4) = false)) (fun i => n - (intOf i).toNat)
  case atStart => exact ⟨0, Nat.zero_le _, rfl, by rfl⟩
  case round =>
    obtain ⟨k, hk, rfl, ht⟩ := hrel
    by_cases hlt : k < n
    · obtain ⟨b, o, x, rfl, hbl, hxk, hc⟩ := hr.at_ hlt
      cases hpx : inB x 0 4
      all_goals have HX := Lib.hid hpx
      all_goals clear hpx
      · go_wp2_with fail
        refine (l1In_eq HX.out _).mono ?_
        rintro e w1 ⟨rfl, rfl⟩
        go_wp2
        go_ret
        refine ⟨ret_bool ?_, rfl⟩
        have h5 := any_hit (p := fun x => !inB x 0 4) hxk.out (by simp [HX.out])
        rw [← HR.out, ownB, h5]
        simp
      · go_wp2_with fail
        refine (l1In_eq HX.out _).mono ?_
        rintro e w1 ⟨rfl, rfl⟩
        go_wp2
        go_round
        case rel => exact ⟨k + 1, by omega, by go_num, any_snoc ht.out hxk.out (by simp [HX.out])⟩
        case measure => simp [intOf]; omega
    · have h5 := find_none ht.out (show xs.length ≤ k by omega)
      have H5 := Lib.hid h5
      clear h5
      go_wp2_with fail
      refine (l1In_any _ _ _ _).mono ?_
      rintro e w1 ⟨rfl, rfl⟩
      go_wp2
      go_ret
      refine ⟨ret_bool ?_, rfl⟩
      rw [← HR.out, ownB, H5.out, hl]
      simp

theorem i_AreOwners_any (A : Option Addr) (n c : Nat) (xs : List Int) (w : World) (hr : Rd w 1 A n (I xs)) (hn : n ≤ 1048576) :
    Calls Try.prog 69 #[.slice A n c] w fun e w' => e = .returned (.bool (ownB xs)) ∧ w = w' := i_AreOwners_eq A n c xs w hr (by omega) _ rfl
end Go.Proofs.Ytaaocnfbbajphaa
