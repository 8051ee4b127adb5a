/- Contracts of markRegisters, heldRegisters. Lengths at most 2^52. -/
import Derived.Test.YtjioedbpjdeigaaRg
namespace Go.Proofs.Ytjioedbpjdeigaa
open Go.RowKit
set_option linter.unusedVariables false
set_option linter.unusedSimpArgs false

set_option maxHeartbeats 1000000 in
theorem markRegisters_any (A : Option Addr) (n c B : Nat) (rs : List Int) (a : Int) (z s : Bool) (m : Int) (w : World) (ho : Own w B (ti A n c rs)) (hn : n ≤ 1048576) (hm0 : 0 ≤ m) (hm1 : m ≤ 4503599627370496) :
    Calls Try.prog 16 #[regV A n c a z s, .int .i64 m] w fun e w' => e = .returned (.int .i64 (m + (n : Int))) ∧ Own w' B (ti A n c (marks m n)) ∧ w.grownBy w' (blk A) := by
  have HO := Lib.hid ho
  clear ho
  go_enter Try.func16, Try.ntmps16
  go_wp2_with fail
  refine (markIntS_any A n c B rs m _ (World.ownsRow.alloc HO.out _) (by omega) (by omega) hm1).mono ?_
  rintro e w1 ⟨rfl, ho1, hg1⟩
  have HO1 := Lib.hid ho1
  have HG1 := Lib.hid (World.grownBy.trans (grown_of_below (below_alloc w _) _) hg1)
  clear ho1 hg1
  go_wp2
  go_ret
  exact ⟨rfl, HO1.out, HG1.out⟩
set_option maxHeartbeats 1000000 in
theorem heldRegisters_marks (A : Option Addr) (n c : Nat) (a : Int) (z s : Bool) (m : Int) (w : World) (hr : Rd w 1 A n (I (marks m n))) (hn : n ≤ 1048576) (hm0 : 0 ≤ m) (hm1 : m ≤ 4503599627370496) :
    Calls Try.prog 17 #[regV A n c a z s, .int .i64 m] w fun e w' => e = .returned (.int .i64 (m + (n : Int))) ∧ Below w.heap.size w w' := by
  have HR := Lib.hid hr
  have hz : ¬ (m + (n : Int)) < 0 := by omega
  clear hr
  go_enter Try.func17, Try.ntmps17
  go_wp2_with fail
  refine (heldIntS_marks A n c m _ (HR.out.keep (below_alloc w _)) (by omega) (by omega) hm1).mono ?_
  rintro e w1 ⟨rfl, hb⟩
  go_wp2
  go_ret
  exact ⟨rfl, below_next (below_alloc _ _) hb⟩
end Go.Proofs.Ytjioedbpjdeigaa
