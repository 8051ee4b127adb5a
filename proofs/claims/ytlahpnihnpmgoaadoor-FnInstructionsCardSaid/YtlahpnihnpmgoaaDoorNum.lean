/- Contracts of l1Num: the decimal text of a number. Numbers of at most 2^52 in size. -/
import Derived.Test.YtlahpnihnpmgoaaDoorIn
import Derived.Lib.ItoaNum
import Derived.IntWalk
namespace Go.Proofs.YtlahpnihnpmgoaaDoor
open Go.RowKit
set_option linter.unusedVariables false
set_option linter.unusedSimpArgs false

theorem dec_small {k : Nat} (h : k < 10) : Lib.decDigits k = [UInt8.ofNat (48 + k)] := by rw [Lib.decDigits, dif_pos h]
theorem dec_big {k : Nat} (h : ¬ k < 10) : Lib.decDigits k = Lib.decDigits (k / 10) ++ [UInt8.ofNat (48 + k % 10)] := by rw [Lib.decDigits, dif_neg h]
theorem dec_len (k : Nat) : (Lib.decDigits k).length ≤ k + 1 := by
  induction k using Nat.strongRecOn with
  | _ k ih =>
    by_cases h : k < 10
    · rw [dec_small h]; simp
    · rw [dec_big h, List.length_append]
      have := ih (k / 10) (by omega)
      simp; omega
def dgS (k : Nat) : UInt8 := UInt8.ofNat (48 + k)
theorem ext_digit {k : Nat} (h : k < 10) : (⟨#[48, 49, 50, 51, 52, 53, 54, 55, 56, 57]⟩ : ByteArray).extract k (k + 1) = ⟨#[dgS k]⟩ := by
  obtain rfl | rfl | rfl | rfl | rfl | rfl | rfl | rfl | rfl | rfl : k = 0 ∨ k = 1 ∨ k = 2 ∨ k = 3 ∨ k = 4 ∨ k = 5 ∨ k = 6 ∨ k = 7 ∨ k = 8 ∨ k = 9 := by omega
  all_goals (apply ByteArray.ext; rfl)

set_option maxHeartbeats 2000000 in
theorem l1Num_small (k : Nat) (w : World) (hk : k < 10) :
    Calls Tryd.prog 42 #[.int .i64 (k : Int)] w fun e w' => e = .returned (.string ⟨(Lib.decDigits k).toArray⟩) ∧ Below w.heap.size w w' := by
  have h1 : (k : Int) < 10 := by omega
  have h0 : (0 : Int) ≤ (k : Int) := by omega
  have hs : (k : Int) + 1 ≤ 10 := by omega
  go_enter Tryd.func42, Tryd.ntmps42
  go_wp2
  go_ret
  refine ⟨?_, Below.refl _ _⟩
  rw [dec_small hk]
  exact congrArg (fun b => Ending.returned (Value.string b)) (ext_digit hk)

set_option maxHeartbeats 4000000 in
theorem l1Num_nn (k : Nat) : ∀ (w : World), k ≤ 9007199254740992 → Calls Tryd.prog 42 #[.int .i64 (k : Int)] w fun e w' => e = .returned (.string ⟨(Lib.decDigits k).toArray⟩) ∧ Below w.heap.size w w' := by
  induction k using Nat.strongRecOn with
  | _ k ih =>
    intro w hk
    by_cases h10 : k < 10
    · exact l1Num_small k w h10
    · obtain ⟨q, d, hd, hq, hkq⟩ : ∃ q d : Nat, d < 10 ∧ 1 ≤ q ∧ k = 10 * q + d := ⟨k / 10, k % 10, by omega, by omega, by omega⟩
      have IH := Lib.hid (ih q (by omega))
      have HE := Lib.hid (show Lib.decDigits k = Lib.decDigits q ++ [dgS d] by
        rw [dec_big h10]
        have e1 : k / 10 = q := by omega
        have e2 : k % 10 = d := by omega
        rw [e1, e2]; rfl)
      have hlen := dec_len q
      obtain ⟨l, hl⟩ : ∃ l, l = Lib.decDigits q := ⟨_, rfl⟩
      rw [← hl] at hlen
      have HL := Lib.hid hl
      have f1 : ¬ (k : Int) < 10 := by omega
      have f2 : (k : Int) / 10 = (q : Int) := by omega
      have f3 : (k : Int) % 10 = (d : Int) := by omega
      have f4 : (k : Int).tdiv 10 = (q : Int) := by rw [Int.tdiv_eq_ediv_of_nonneg (by omega)]; exact f2
      have f5 : (k : Int).tmod 10 = (d : Int) := by rw [Int.tmod_eq_emod_of_nonneg (by omega)]; exact f3
      have f6 : (0 : Int) ≤ (d : Int) := by omega
      have f7 : (d : Int) + 1 ≤ 10 := by omega
      have f8 : (0 : Int) ≤ (k : Int) := by omega
      have f9 : (k : Int) ≤ 9007199254740992 := by omega
      have f10 : IntKind.i64.wrap ((d : Int) + 1) = (d : Int) + 1 := IntWalk.i64_in _ (by omega)
      have f11 : l.length + 1 ≤ 9223372036854775807 := by omega
      have hc : ∀ w : World, Calls Tryd.prog 42 #[.int .i64 (q : Int)] w fun e w' => e = .returned (.string ⟨l.toArray⟩) ∧ Below w.heap.size w w' := fun w => by rw [HL.out]; exact IH.out w (by omega)
      have HC := Lib.hid hc
      have HD := Lib.hid hd
      clear hl ih h10 hkq hc hd hk hlen
      go_enter Tryd.func42, Tryd.ntmps42
      go_wp2_with fail
      refine wp_region_ext (by kernel_rfl) (by kernel_rfl) ?_
      repeat (go_big_quiet_step ((go_at_call 42; refine calls_ext (HC.out _))))
      refine wpQuiet_nil ?_
      rintro w1 ⟨⟨_, hb1⟩, rfl⟩
      go_wp2
      go_ret
      refine ⟨?_, hb1⟩
      rw [HE.out, ← HL.out]
      have e := ByteArray.mk_append_mk l [dgS d]
      have e2 := ext_digit HD.out
      exact congrArg (fun b => Ending.returned (Value.string b)) ((congrArg (fun x => (⟨l.toArray⟩ : ByteArray) ++ x) e2).trans e)

set_option maxHeartbeats 2000000 in
theorem l1Num_any (n : Int) (w : World) (h0 : -4503599627370496 ≤ n) (h1 : n ≤ 4503599627370496) :
    Calls Tryd.prog 42 #[.int .i64 n] w fun e w' => e = .returned (.string ⟨(Lib.itoa n).toArray⟩) ∧ Below w.heap.size w w' := by
  by_cases hn : n < 0
  · obtain ⟨k, hk⟩ := Int.eq_ofNat_of_zero_le (a := -n) (by omega)
    obtain ⟨l, hl⟩ : ∃ l, l = Lib.decDigits k := ⟨_, rfl⟩
    have hlen := dec_len k
    rw [← hl] at hlen
    have HL := Lib.hid hl
    have HE := Lib.hid (show Lib.itoa n = 45 :: Lib.decDigits k by
      rw [Lib.itoa, if_pos hn]
      have : n.natAbs = k := by omega
      rw [this])
    have hc : ∀ w : World, Calls Tryd.prog 42 #[.int .i64 (-n)] w fun e w' => e = .returned (.string ⟨l.toArray⟩) ∧ Below w.heap.size w w' := fun w => by
      rw [HL.out, show -n = (k : Int) from hk]; exact l1Num_nn k w (by omega)
    have HC := Lib.hid hc
    have f11 : 1 + l.length ≤ 9223372036854775807 := by omega
    clear hl hc hk hlen
    go_enter Tryd.func42, Tryd.ntmps42
    go_wp2_with fail
    refine (HC.out _).mono ?_
    rintro e w1 ⟨rfl, hb⟩
    go_wp2
    go_ret
    refine ⟨?_, hb⟩
    rw [HE.out, ← HL.out]
    have e := ByteArray.mk_append_mk [45] l
    exact congrArg (fun b => Ending.returned (Value.string b)) e
  · obtain ⟨k, rfl⟩ := Int.eq_ofNat_of_zero_le (a := n) (by omega)
    have e : Lib.itoa (k : Int) = Lib.decDigits k := by
      rw [Lib.itoa, if_neg hn]; rfl
    rw [e]
    exact l1Num_nn k w (by omega)
end Go.Proofs.YtlahpnihnpmgoaaDoor
