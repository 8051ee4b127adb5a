/- Contracts of the checksum of a text, in the program and in the reference. Lengths at most 2^20. -/
import Derived.Test.YtppnmpkefchknaaDoorRows
import Derived.Test.YtppnmpkefchknaaDoorMem
namespace Go.Proofs.YtppnmpkefchknaaDoor
open Go.RowKit
set_option linter.unusedVariables false
set_option linter.unusedSimpArgs false

theorem str_at (l : List UInt8) {k : Nat} {b : UInt8} (h : l[k]? = some b) (w : World) : (Instr.index 9 (.string ⟨l.toArray⟩) (.int .i64 (k : Int))).run Tryd.prog w = .ok (.int .u8 (b.toNat : Int)) w := by
  obtain ⟨hk, hb⟩ := List.getElem?_eq_some_iff.1 h
  rw [run_index_string (P := Tryd.prog) (w := w) 9 ⟨l.toArray⟩ .i64 (k : Int) Tryd.underlying9]
  have : (0 : Int) ≤ (k : Int) ∧ (k : Int) < ((⟨l.toArray⟩ : ByteArray).size : Int) := ⟨by omega, by show (k : Int) < ((l.toArray.size : Nat) : Int); simp; exact hk⟩
  rw [dif_pos this]
  subst hb
  rfl
theorem take_snocA {α : Type} {l : List α} {k : Nat} {x : α} (h : l[k]? = some x) : l.take (k + 1) = l.take k ++ [x] := by
  rw [List.take_add_one, h]; rfl

/-- a step of the checksum -/
def sumS (h : Int) (c : UInt8) : Int := (41 * h + (c.toNat : Int) + 1) % 999979
/-- the checksum of a list of bytes -/
def sumL (l : List UInt8) : Int := l.foldl sumS 7
theorem sumL_snoc (l : List UInt8) (c : UInt8) : sumL (l ++ [c]) = sumS (sumL l) c := by simp [sumL]
theorem sumS_bd (h : Int) (c : UInt8) : 0 ≤ sumS h c ∧ sumS h c < 999979 := by unfold sumS; omega
theorem sumL_bd (l : List UInt8) : 0 ≤ sumL l ∧ sumL l < 999979 := by
  rcases List.eq_nil_or_concat l with rfl | ⟨m, c, rfl⟩
  · simp [sumL]
  · rw [List.concat_eq_append, sumL_snoc]; exact sumS_bd _ _

set_option maxHeartbeats 1000000 in
theorem l1Sum_any (l : List UInt8) (w : World) (hn : l.length ≤ 1048576) :
    Calls Tryd.prog 37 #[.string ⟨l.toArray⟩] w fun e w' => e = .returned (.int .i64 (sumL l)) ∧ w = w' := by
  go_enter Tryd.func37, Tryd.ntmps37
  go_wp2
  go_loop [3, 4] (fun h i => ∃ k : Nat, k ≤ l.length ∧ i = .int .i64 k ∧ ∃ x : Int, 0 ≤ x ∧ x < 999979 ∧ h = .int .i64 x ∧ Hid (x = sumL (l.take k))) (fun _ i => l.length - (intOf i).toNat)
  case atStart => exact ⟨0, Nat.zero_le _, rfl, 7, by omega, by omega, rfl, rfl⟩
  case round =>
    obtain ⟨k, hk, rfl, x, hx0, hx1, rfl, HX⟩ := hrel
    by_cases hlt : k < l.length
    · obtain ⟨b, hb⟩ : ∃ b, l[k]? = some b := ⟨_, List.getElem?_eq_getElem hlt⟩
      have hix := str_at l hb
      have HU := Lib.hid (show sumL (l.take (k + 1)) = (41 * x + (b.toNat : Int) + 1) % 999979 by rw [take_snocA hb, sumL_snoc, ← HX.out]; rfl)
      clear hb
      have hb1 := b.toNat_lt
      have hb0 : (0 : Int) ≤ (b.toNat : Int) := by omega
      have hb2 : (b.toNat : Int) < 256 := by omega
      go_wp2
      go_round
      case rel => exact ⟨k + 1, by omega, by go_num, _, by omega, by omega, rfl, HU.out.symm⟩
      case measure => simp [intOf]; omega
    · go_wp2
      go_ret
      refine ⟨ret_int ?_, rfl⟩
      rw [HX.out, List.take_of_length_le (by omega)]

set_option maxHeartbeats 1000000 in
theorem checksum_any (l : List UInt8) (w : World) (hn : l.length ≤ 1048576) :
    Calls Tryd.prog 28 #[.string ⟨l.toArray⟩] w fun e w' => e = .returned (.int .i64 (sumL l)) ∧ w = w' := by
  go_enter Tryd.func28, Tryd.ntmps28
  go_wp2
  go_loop [3, 4] (fun h i => ∃ k : Nat, k ≤ l.length ∧ i = .int .i64 k ∧ ∃ x : Int, 0 ≤ x ∧ x < 999979 ∧ h = .int .i64 x ∧ Hid (x = sumL (l.take k))) (fun _ i => l.length - (intOf i).toNat)
  case atStart => exact ⟨0, Nat.zero_le _, rfl, 7, by omega, by omega, rfl, rfl⟩
  case round =>
    obtain ⟨k, hk, rfl, x, hx0, hx1, rfl, HX⟩ := hrel
    by_cases hlt : k < l.length
    · obtain ⟨b, hb⟩ : ∃ b, l[k]? = some b := ⟨_, List.getElem?_eq_getElem hlt⟩
      have hix := str_at l hb
      have HU := Lib.hid (show sumL (l.take (k + 1)) = (41 * x + (b.toNat : Int) + 1) % 999979 by rw [take_snocA hb, sumL_snoc, ← HX.out]; rfl)
      clear hb
      have hb1 := b.toNat_lt
      have hb0 : (0 : Int) ≤ (b.toNat : Int) := by omega
      have hb2 : (b.toNat : Int) < 256 := by omega
      go_wp2
      go_round
      case rel => exact ⟨k + 1, by omega, by go_num, _, by omega, by omega, rfl, HU.out.symm⟩
      case measure => simp [intOf]; omega
    · go_wp2
      go_ret
      refine ⟨ret_int ?_, rfl⟩
      rw [HX.out, List.take_of_length_le (by omega)]

/-- a list of bytes, or none -/
def selB (b : Bool) (l : List UInt8) : ByteArray := if b then ⟨l.toArray⟩ else ⟨#[]⟩
def selN (b : Bool) (x : Int) : Int := if b then x else 0
def shortB (l : List UInt8) : Bool := decide (l.length ≤ 4000)
end Go.Proofs.YtppnmpkefchknaaDoor
