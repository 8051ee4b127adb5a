/- Contract of the law's comparison of two lists of pairs. Lengths at most 2^20. -/
import Derived.Test.YtppnmpkefchknaaCb
import Derived.ChangeKeysEq
namespace Go.Proofs.Ytppnmpkefchknaa
open Go.RowKit
set_option linter.unusedVariables false
set_option linter.unusedSimpArgs false

theorem eq_pair (a b : Int) (w : World) : (Op.equalIn 10000 58 (.agg #[.int .i64 a, .int .i64 b]) (.agg #[.int .i64 a, .int .i64 b])).run Try.prog w = .ok true w := by
  obtain ⟨i0, hi, hz0, hz1, hz2⟩ := info_parts Try.info3
  have hc : Try.prog.cellsOf 3 = 1 := by kernel_rfl
  rw [run_equalIn_array (P := Try.prog) w 9999 (t := 58) (e := 3) (n := 2) (i := i0) _ _ Try.underlying58 hi, hc]
  have hr : List.range 2 = [0, 1] := by decide
  rw [hr]
  have h1 : (part 3 #[Value.int .i64 a, .int .i64 b] (0 * 1)).run Try.prog w = .ok (.int .i64 a) w := by simp [part, go_sem, Try.underlying3]
  have h2 : (part 3 #[Value.int .i64 a, .int .i64 b] (1 * 1)).run Try.prog w = .ok (.int .i64 b) w := by simp [part, go_sem, Try.underlying3]
  simp [Op.eqItems, h1, h2, run_equalIn_int w _ 3 .i64 .i64 _ _ Try.underlying3]
set_option maxHeartbeats 1000000 in
theorem vPairs_same (A A' : Option Addr) (n c c' : Nat) (xs : List RA2) (w : World) (hr : Rd w 2 A n (J cA2 xs)) (hr' : Rd w 2 A' n (J cA2 xs)) (hn : n ≤ 1048576) :
    Calls Try.prog 42 #[.slice A n c, .slice A' n c'] w fun e w' => e = .returned (.bool true) ∧ Below w.heap.size w w' := by
  have hnb : ((n : Int) != (n : Int)) = false := by simp
  go_enter Try.func42, Try.ntmps42
  go_wp2
  go_loopw [5] (fun i wr => ∃ k : Nat, k ≤ n ∧ i = .int .i64 k ∧ Below w.heap.size w wr) (fun i _ => n - (intOf i).toNat)
  case atStart => exact ⟨0, Nat.zero_le _, rfl, Below.refl _ _⟩
  case round =>
    obtain ⟨k, hk, rfl, hB⟩ := hrel
    clear hnb
    by_cases hlt : k < n
    · obtain ⟨b, o, x, rfl, hbl, hxk, hc0, hc1⟩ := atA2 (hr.keep hB) hlt
      obtain ⟨b', o', y, rfl, hbl', hyk, hc0', hc1'⟩ := atA2 (hr'.keep hB) hlt
      obtain rfl : x = y := Option.some.inj (hxk.out.symm.trans hyk.out)
      have h0 : (0 : Int) ≤ (k : Int) := by omega
      have h1 : (k : Int) < (n : Int) := by omega
      have he := eq_pair x.f0 x.f1
      go_wp2
      go_quiet (fail)
      go_wp2
      go_roundw
      case rel => exact ⟨k + 1, by omega, by go_num, below_drewN hB _⟩
      case measure => simp [intOf]; omega
    · go_wp2
      go_ret
      exact ⟨rfl, hB⟩
end Go.Proofs.Ytppnmpkefchknaa
