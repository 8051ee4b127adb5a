/- Contracts of the small helpers of laws: vBig, vInts. Lengths at most 2^52. -/
import Derived.Test.YtaaocnfbbajphaaInts
namespace Go.Proofs.Ytaaocnfbbajphaa
open Go.RowKit
set_option linter.unusedVariables false
set_option linter.unusedSimpArgs false

set_option maxHeartbeats 400000 in
theorem vBig_eq (A : Option Addr) (n c : Nat) (w : World) (hn : n ≤ 9223372036854775807) (r : Bool) (hr : decide (65536 < n) = r) :
    Calls Try.prog 5 #[.slice A n c] w fun e w' => e = .returned (.bool r) ∧ w = w' := by
  have HR := Lib.hid hr
  clear hr
  by_cases h : 65536 < n
  · have h1 : (65536 : Int) < (n : Int) := by omega
    go_enter Try.func5, Try.ntmps5
    go_wp2
    go_ret
    exact ⟨ret_bool (by rw [← HR.out]; simp [h]), rfl⟩
  · have h1 : ¬ (65536 : Int) < (n : Int) := by omega
    go_enter Try.func5, Try.ntmps5
    go_wp2
    go_ret
    exact ⟨ret_bool (by rw [← HR.out]; simp [h]), rfl⟩

set_option maxHeartbeats 1000000 in
/-- the comparison of two lists of ints -/
theorem vInts_any (A A' : Option Addr) (n n' c c' : Nat) (xs ys : List Int) (w : World) (hr : Rd w 1 A n (I xs)) (hr' : Rd w 1 A' n' (I ys)) (hn : n ≤ 4503599627370496) (hn' : n' ≤ 4503599627370496) :
    Calls Try.prog 21 #[.slice A n c, .slice A' n' c'] w fun e w' => e = .returned (.bool (xs == ys)) ∧ Below w.heap.size w w' := by
  have hl := hr.len
  have hl' := hr'.len
  by_cases hnn : n = n'
  · subst hnn
    have hnb : ((n : Int) != (n : Int)) = false := by simp
    go_enter Try.func21, Try.ntmps21
    go_wp2
    go_loopw [5] (fun i wr => ∃ k : Nat, k ≤ n ∧ i = .int .i64 k ∧ xs.take k = ys.take k ∧ Below w.heap.size w wr) (fun i _ => n - (intOf i).toNat)
    case atStart => exact ⟨0, Nat.zero_le _, rfl, rfl, Below.refl _ _⟩
    case round =>
      obtain ⟨k, hk, rfl, ht, hB⟩ := hrel
      have HT := Lib.hid ht
      clear ht hnb
      by_cases hlt : k < n
      · obtain ⟨b, o, x, rfl, hbl, hxk, hc⟩ := (hr.keep hB).at_ hlt
        obtain ⟨b', o', y, rfl, hbl', hyk, hc'⟩ := (hr'.keep hB).at_ hlt
        have h0 : (0 : Int) ≤ (k : Int) := by omega
        have h1 : (k : Int) < (n : Int) := by omega
        by_cases hxy : x = y
        · subst hxy
          go_wp2
          go_quiet (fail)
          go_wp2
          go_roundw
          case rel => exact ⟨k + 1, by omega, by go_num, by rw [take_snoc hxk.out, take_snoc hyk.out, HT.out], below_drewN hB _⟩
          case measure => simp [intOf]; omega
        · have hne : (x != y) = true := by simp [hxy]
          go_wp2
          go_quiet (fail)
          go_wp2
          go_ret
          refine ⟨ret_bool ?_, below_drewN hB _⟩
          have : ¬ xs = ys := fun e => by
            subst e
            exact hxy (Option.some.inj (hxk.out.symm.trans hyk.out))
          simp [this]
      · go_wp2
        go_ret
        refine ⟨ret_bool ?_, hB⟩
        have e := HT.out
        rw [List.take_of_length_le (by omega), List.take_of_length_le (by omega)] at e
        simp [e]
  · have hnb : ((n : Int) != (n' : Int)) = true := by simp; omega
    go_enter Try.func21, Try.ntmps21
    go_wp2
    go_ret
    refine ⟨ret_bool ?_, Below.refl _ _⟩
    have : ¬ xs = ys := fun e => by subst e; omega
    simp [this]


theorem vInts_same (A A' : Option Addr) (n c c' : Nat) (xs : List Int) (w : World) (hr : Rd w 1 A n (I xs)) (hr' : Rd w 1 A' n (I xs)) (hn : n ≤ 1048576) :
    Calls Try.prog 21 #[.slice A n c, .slice A' n c'] w fun e w' => e = .returned (.bool true) ∧ Below w.heap.size w w' :=
  (vInts_any A A' n n c c' xs xs w hr hr' (by omega) (by omega)).mono fun e w' ⟨he, hb⟩ => ⟨by rw [he]; simp, hb⟩
theorem vInts_eq {xs ys : List Int} {r : Bool} (h : (xs == ys) = r) (A A' : Option Addr) (n n' c c' : Nat) (w : World) (hr : Rd w 1 A n (I xs)) (hr' : Rd w 1 A' n' (I ys)) (hn : n ≤ 1048576) (hn' : n' ≤ 1048576) :
    Calls Try.prog 21 #[.slice A n c, .slice A' n' c'] w fun e w' => e = .returned (.bool r) ∧ Below w.heap.size w w' := by
  subst h; exact vInts_any A A' n n' c c' xs ys w hr hr' (by omega) (by omega)

end Go.Proofs.Ytaaocnfbbajphaa
