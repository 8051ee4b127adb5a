/- Contracts of the small scalar functions on traps: what inside, isPage, isWidth, isWord16, l1In, l5Good and IsTrap return. No conditions. -/
import Derived.Test.YtcdocgmikpccoaaSmall
namespace Go.Proofs.Ytcdocgmikpccoaa
open Go.RowKit
set_option linter.unusedVariables false
set_option linter.unusedSimpArgs false

set_option maxHeartbeats 400000 in
theorem isPage_any (x : Int) (w : World) :
    Calls Try.prog 97 #[.int .i64 x] w fun e w' => e = .returned (.bool (inB x 0 15)) ∧ w = w' := by
  go_enter Try.func97, Try.ntmps97
  go_wp2_with (go_at_call 88; refine (inside_any _ _ _ _).mono ?_; rintro e w' ⟨rfl, rfl⟩)
  go_ret
  exact ⟨rfl, rfl⟩

set_option maxHeartbeats 400000 in
theorem isWord16_any (x : Int) (w : World) :
    Calls Try.prog 99 #[.int .i64 x] w fun e w' => e = .returned (.bool (inB x 0 65535)) ∧ w = w' := by
  go_enter Try.func99, Try.ntmps99
  go_wp2_with (go_at_call 88; refine (inside_any _ _ _ _).mono ?_; rintro e w' ⟨rfl, rfl⟩)
  go_ret
  exact ⟨rfl, rfl⟩

def widB (x : Int) : Bool := x == 1 || x == 2 || x == 4
set_option maxHeartbeats 400000 in
theorem isWidth_any (x : Int) (w : World) :
    Calls Try.prog 98 #[.int .i64 x] w fun e w' => e = .returned (.bool (widB x)) ∧ w = w' := by
  go_enter Try.func98, Try.ntmps98
  go_wp2
  all_goals go_ret
  all_goals refine ⟨?_, rfl⟩
  all_goals simp [widB, *]

/-- is it a trap -/
def trapB (c w : Int) (s : Bool) (r i : Int) : Bool :=
  if c = 1 then w == 0 && (r == 0 && inB i 0 15)
  else if c = 2 then w == 0 && (r == 0 && (!s && inB i 0 255))
  else if c = 3 then widB w && (inB r 0 3 && (inB i 0 65535 && i.tmod w == 0))
  else (c == 4 || c == 5) && (w == 0 && (!s && (r == 0 && i == 0)))

/-- a trap as a value -/
abbrev trapV (c w : Int) (s : Bool) (r i : Int) : Value := .agg #[.int .i64 c, .int .i64 w, .bool s, .int .i64 r, .int .i64 i]

set_option maxHeartbeats 800000 in
theorem i_IsTrap_any (c wi : Int) (s : Bool) (r i : Int) (w : World) :
    Calls Try.prog 28 #[trapV c wi s r i] w fun e w' => e = .returned (.bool (trapB c wi s r i)) ∧ Below w.heap.size w w' := by
  go_enter Try.func28, Try.ntmps28
  go_wp2_with (first | (go_at_call 97; refine (isPage_any _ _).mono ?_; rintro e w' ⟨rfl, rfl⟩) | (go_at_call 98; refine (isWidth_any _ _).mono ?_; rintro e w' ⟨rfl, rfl⟩) | (go_at_call 88; refine (inside_any _ _ _ _).mono ?_; rintro e w' ⟨rfl, rfl⟩) | (go_at_call 99; refine (isWord16_any _ _).mono ?_; rintro e w' ⟨rfl, rfl⟩))
  all_goals first
    | (exfalso; simp_all [widB]; done)
    | (go_ret; refine ⟨ret_bool ?_, (Below.refl _ _).alloc (Nat.le_refl _) _⟩; simp_all [trapB])

set_option maxHeartbeats 1600000 in
theorem l5Good_any (c wi : Int) (s : Bool) (r i : Int) (w : World) :
    Calls Try.prog 91 #[trapV c wi s r i] w fun e w' => e = .returned (.bool (trapB c wi s r i)) ∧ Below w.heap.size w w' := by
  go_enter Try.func91, Try.ntmps91
  go_wp2_with (first | (go_at_call 93; refine (l1In_any _ _ _ _).mono ?_; rintro e w' ⟨rfl, rfl⟩))
  all_goals first
    | (exfalso; simp_all [widB]; done)
    | (go_ret; refine ⟨ret_bool ?_, (Below.refl _ _).alloc (Nat.le_refl _) _⟩; (first | (simp_all [trapB, widB]; done) | (simp_all [trapB, widB]; rw [Bool.eq_iff_iff]; simp [inB]; omega)))

end Go.Proofs.Ytcdocgmikpccoaa
