/- The walk of the law FnExactFormatInt through its contracts. FnExactFormatInt returns true for every number (the card of it, tied to the program). No conditions. -/
import Derived.Test.YtpgmkcnpbhalmaaDoorLaid
namespace Go.Proofs.YtpgmkcnpbhalmaaDoor
open Go.RowKit
set_option linter.unusedVariables false
set_option linter.unusedSimpArgs false

set_option maxHeartbeats 1000000 in
theorem walk_FnExactFormatInt (n : Int) (w : World) (_ : (Lit.int .i64 n).wf = true) (hL : laidMetH Tryd.prog lst3 w) :
    Calls Tryd.prog 3 #[.int .i64 n] w fun e w' => e = .returned (.bool true) ∧ Below w.heap.size w w' := by
  have HT := Lib.hid (tab_of3 hL)
  clear hL
  go_enter Tryd.func3, Tryd.ntmps3
  go_wp2_with fail
  refine (s_FormatInt_any n _).mono ?_
  rintro e w1 ⟨rfl, hb1⟩
  have HT1 := Lib.hid (HT.out.keep hb1)
  go_wp2_with fail
  refine (i_FormatInt_any n _ HT1.out).mono ?_
  rintro e w2 ⟨rfl, hb2⟩
  go_wp2
  go_ret
  exact ⟨rfl, below_next hb1 hb2⟩
end Go.Proofs.YtpgmkcnpbhalmaaDoor
