/- The walk of the law FnExactVerifyChecksum through its contracts. FnExactVerifyChecksum returns true for every text (the card of it, tied to the program). No conditions. -/
import Derived.Test.YtpgmkcnpbhalmaaDoorLaid
import Derived.Test.YtpgmkcnpbhalmaaDoorVc
namespace Go.Proofs.YtpgmkcnpbhalmaaDoor
open Go.RowKit
set_option linter.unusedVariables false
set_option linter.unusedSimpArgs false

set_option maxHeartbeats 1000000 in
theorem walk_FnExactVerifyChecksum (q : ByteArray) (w : World) (hsq : q.size ≤ maxLen) (hL : laidMetH Tryd.prog lst3 w) (hsh : w.ShapedOpen Tryd.prog) :
    Calls Tryd.prog 5 #[.string q] w fun e w' => e = .returned (.bool true) ∧ Below w.heap.size w w' := by
  obtain ⟨l, rfl⟩ : ∃ l : List UInt8, q = ⟨l.toArray⟩ := ⟨q.data.toList, by cases q; simp⟩
  have HT := Lib.hid (tab_of3 hL)
  have HM := Lib.hid (Mx.of hsh)
  clear hL hsh
  by_cases hn : l.length ≤ 1048576
  rotate_left
  · have hz : (1048576 : Int) < (l.length : Int) := by omega
    go_enter Tryd.func5, Tryd.ntmps5
    go_wp2
    go_ret
    exact ⟨rfl, Below.refl _ _⟩
  have hz : ¬ (1048576 : Int) < (l.length : Int) := by omega
  go_enter Tryd.func5, Tryd.ntmps5
  go_wp2_with fail
  refine (s_VerifyChecksum_any l _ hn).mono ?_
  rintro e w1 ⟨rfl, hb1⟩
  have HT1 := Lib.hid (HT.out.keep hb1)
  have HM1 := Lib.hid (HM.out.keep hb1)
  go_wp2_with fail
  refine (i_VerifyChecksum_any l _ hn HT1.out HM1.out).mono ?_
  rintro e w2 ⟨rfl, hb2⟩
  go_wp2
  go_ret
  exact ⟨rfl, below_next hb1 hb2⟩
end Go.Proofs.YtpgmkcnpbhalmaaDoor
