/- Contracts of l2Run and of the two LongestFree. Lengths at most 2^20. -/
import Derived.Test.YtppnmpkefchknaaFc
import Derived.Test.YtppnmpkefchknaaPlf
namespace Go.Proofs.Ytppnmpkefchknaa
open Go.RowKit
set_option linter.unusedVariables false
set_option linter.unusedSimpArgs false

set_option maxHeartbeats 1000000 in
theorem l2Run_any (A : Option Addr) (n c : Nat) (xs : List Int) (i : Nat) (w : World) (hr : Rd w 1 A n (I xs)) (hn : n ≤ 1048576) (hi : i ≤ n) :
    Calls Try.prog 72 #[.slice A n c, .int .i64 (i : Int)] w fun e w' => ∃ r : Nat, e = .returned (.int .i64 (r : Int)) ∧ MaxRun xs i r ∧ w = w' := by
  have hl := hr.len
  have HL := Lib.hid hl
  clear hl
  go_enter Try.func72, Try.ntmps72
  go_wp2
  go_loop [5] (fun v => ∃ k : Nat, i + k ≤ n ∧ v = .int .i64 (k : Int) ∧ Hid (Zr xs i k)) (fun v => n - (intOf v).toNat)
  case atStart => exact ⟨0, by omega, rfl, Zr.zero _ _⟩
  case round =>
    obtain ⟨k, hk, rfl, hz⟩ := hrel
    by_cases hlt : i + k < n
    · obtain ⟨b, o, x, rfl, hbl, hxk, hc⟩ := hr.at_ hlt
      have h0 : (0 : Int) ≤ (i : Int) + (k : Int) := by omega
      have h1 : (i : Int) + (k : Int) < (n : Int) := by omega
      by_cases hx0 : x = 0
      · subst hx0
        go_wp2
        go_round
        case rel => exact ⟨k + 1, by omega, by go_num, hz.out.snoc hxk.out⟩
        case measure => simp [intOf]; omega
      · have hne : (x == 0) = false := by simp [hx0]
        go_wp2
        go_ret
        exact ⟨k, rfl, MaxRun.stop hz.out (by rw [hxk.out]; simpa using hx0), rfl⟩
    · have h1 : ¬ (i : Int) + (k : Int) < (n : Int) := by omega
      go_wp2
      go_ret
      exact ⟨k, rfl, MaxRun.stop hz.out (by rw [List.getElem?_eq_none (by rw [HL.out]; omega)]; simp), rfl⟩

theorem ret_bool3 {x y : Value} {a b : Bool} (h : a = b) : Ending.returned (.tuple #[x, y, .bool a]) = .returned (.tuple #[x, y, .bool b]) := by rw [h]

/-- what the longest free run's functions leave -/
def LPost (own : Bool) (xs : List Int) (w : World) (e : Ending) (w' : World) : Prop := ∃ (b m : Nat) (ok : Bool), e = .returned (.tuple #[.int .i64 (b : Int), .int .i64 (m : Int), .bool ok]) ∧ LRes own xs b m ok ∧ w = w'
theorem LPost.mk {own : Bool} {xs : List Int} {w w' : World} {e : Ending} (b m : Nat) (ok : Bool) (h : e = .returned (.tuple #[.int .i64 (b : Int), .int .i64 (m : Int), .bool ok])) (hl : LRes own xs b m ok) (hw : w = w') : LPost own xs w e w' := ⟨b, m, ok, h, hl, hw⟩


set_option maxHeartbeats 4000000 in
theorem s_LongestFree_any (A : Option Addr) (n c : Nat) (xs : List Int) (w : World) (hr : Rd w 1 A n (I xs)) (hn : n ≤ 1048576) :
    Calls Try.prog 35 #[.slice A n c] w fun e w' => LPost (ownB xs) xs w e w' := by
  have HL := Lib.hid hr.len
  cases h0 : ownB xs
  all_goals have H0 := Lib.hid h0
  all_goals clear h0
  · go_enter Try.func35, Try.ntmps35
    go_wp2_with fail
    refine (l2Good_eq _ _ _ xs _ hr (by omega) _ H0.out).mono ?_
    rintro e w1 ⟨rfl, rfl⟩
    go_wp2
    go_ret3
    exact LPost.mk 0 0 false rfl (.inl ⟨rfl, rfl, rfl, rfl⟩) rfl
  · go_enter Try.func35, Try.ntmps35
    go_wp2_with fail
    refine (l2Good_eq _ _ _ xs _ hr (by omega) _ H0.out).mono ?_
    rintro e w1 ⟨rfl, rfl⟩
    go_wp2
    go_loop [5, 6, 7, 8] (fun bv mv iv nv => ∃ k b m : Nat, k ≤ n ∧ iv = .int .i64 (k : Int) ∧ bv = .int .i64 (b : Int) ∧ mv = .int .i64 (m : Int) ∧ m ≤ n ∧ Hid (Each xs k b m)) (fun _ _ iv _ => n - (intOf iv).toNat)
    case atStart => exact ⟨0, 0, 0, Nat.zero_le _, rfl, rfl, rfl, Nat.zero_le _, Each.start _⟩
    case round =>
      obtain ⟨k, b, m, hk, rfl, rfl, rfl, hmn, hE⟩ := hrel
      by_cases hlt : k < n
      · go_wp2_with fail
        refine (l2Run_any _ _ _ xs k _ hr hn (by omega)).mono ?_
        rintro e w1 ⟨r, rfl, hM, rfl⟩
        have HM := Lib.hid hM
        clear hM
        have hrn : r ≤ n := by
          rcases Nat.eq_zero_or_pos r with h1 | h1
          · omega
          · have := HM.out.run.fits h1
            have := HL.out
            omega
        by_cases hmr : m < r
        · have h1 : (m : Int) < (r : Int) := by omega
          go_wp2
          go_round
          case rel => exact ⟨k + 1, k, r, by omega, by go_num, rfl, rfl, hrn, hE.out.longer HM.out hmr⟩
          case measure => simp [intOf]; omega
        · have h1 : ¬ (m : Int) < (r : Int) := by omega
          go_wp2
          go_round
          case rel => exact ⟨k + 1, b, m, by omega, by go_num, rfl, rfl, hmn, hE.out.same HM.out hmr⟩
          case measure => simp [intOf]; omega
      · have hkn := Lib.hid (show k = xs.length by have := HL.out; omega)
        by_cases hm0 : m = 0
        · subst hm0
          go_wp2
          go_ret3
          have hG := hE.out
          rw [hkn.out] at hG
          have hb := hG.zero rfl
          exact LPost.mk 0 0 false (by rw [hb]; rfl) (.inr ⟨rfl, by rw [hb] at hG; exact hG.good, rfl⟩) rfl
        · have h1 : ((m : Int) == 0) = false := by simp; omega
          go_wp2
          go_ret3
          have hG := hE.out
          rw [hkn.out] at hG
          exact LPost.mk b m true rfl (.inr ⟨rfl, hG.good, by simp; omega⟩) rfl

set_option maxHeartbeats 4000000 in
theorem i_LongestFree_any (A : Option Addr) (n c : Nat) (xs : List Int) (w : World) (hr : Rd w 1 A n (I xs)) (hn : n ≤ 1048576) :
    Calls Try.prog 34 #[.slice A n c] w fun e w' => LPost (ownB xs) xs w e w' := by
  have HL := Lib.hid hr.len
  cases h0 : ownB xs
  all_goals have H0 := Lib.hid h0
  all_goals clear h0
  · go_enter Try.func34, Try.ntmps34
    go_wp2_with fail
    refine (i_AreOwners_eq _ _ _ xs _ hr (by omega) _ H0.out).mono ?_
    rintro e w1 ⟨rfl, rfl⟩
    go_wp2
    go_ret3
    exact LPost.mk 0 0 false rfl (.inl ⟨rfl, rfl, rfl, rfl⟩) rfl
  · go_enter Try.func34, Try.ntmps34
    go_wp2_with fail
    refine (i_AreOwners_eq _ _ _ xs _ hr (by omega) _ H0.out).mono ?_
    rintro e w1 ⟨rfl, rfl⟩
    go_wp2
    go_loop [5, 6, 7, 8, 9, 15] (fun bv mv fv jv xv iv => ∃ k b m f : Nat, k ≤ n ∧ iv = .int .i64 (k : Int) ∧ bv = .int .i64 (b : Int) ∧ mv = .int .i64 (m : Int) ∧ fv = .int .i64 (f : Int) ∧ m ≤ n ∧ f ≤ k ∧ Hid (Scan xs k b m f)) (fun _ _ _ _ _ iv => n - (intOf iv).toNat)
    case atStart => exact ⟨0, 0, 0, 0, Nat.zero_le _, rfl, rfl, rfl, rfl, Nat.zero_le _, Nat.zero_le _, Scan.start _⟩
    case round =>
      obtain ⟨k, b, m, f, hk, rfl, rfl, rfl, rfl, hmn, hfk, hE⟩ := hrel
      by_cases hlt : k < n
      · obtain ⟨bb, o, x, rfl, hbl, hxk, hc⟩ := hr.at_ hlt
        by_cases hx0 : x = 0
        · subst hx0
          by_cases hmr : m < k + 1 - f
          · have h1 : (m : Int) < (k : Int) + 1 - (f : Int) := by omega
            go_wp2
            go_round
            case rel => exact ⟨k + 1, f, k + 1 - f, f, by omega, by go_num, rfl, by rw [Int.ofNat_sub (by omega)]; go_num, rfl, by omega, by omega, hE.out.longer hxk.out hmr⟩
            case measure => simp [intOf]; omega
          · have h1 : ¬ (m : Int) < (k : Int) + 1 - (f : Int) := by omega
            go_wp2
            go_round
            case rel => exact ⟨k + 1, b, m, f, by omega, by go_num, rfl, rfl, rfl, hmn, by omega, hE.out.same hxk.out hmr⟩
            case measure => simp [intOf]; omega
        · have hne : (x != 0) = true := by simp [hx0]
          have h1 : ¬ (m : Int) < (k : Int) + 1 - ((k : Int) + 1) := by omega
          go_wp2
          go_round
          case rel => exact ⟨k + 1, b, m, k + 1, by omega, by go_num, rfl, rfl, by go_num, hmn, by omega, hE.out.used hxk.out hx0⟩
          case measure => simp [intOf]; omega
      · have hkn := Lib.hid (show k = xs.length by have := HL.out; omega)
        go_wp2
        go_ret3
        have hG := hE.out
        rw [hkn.out] at hG
        exact LPost.mk b m (decide (0 < m)) (ret_bool3 (by first | rfl | (rw [Bool.eq_iff_iff]; simp))) (.inr ⟨rfl, hG.good, rfl⟩) rfl
end Go.Proofs.Ytppnmpkefchknaa
