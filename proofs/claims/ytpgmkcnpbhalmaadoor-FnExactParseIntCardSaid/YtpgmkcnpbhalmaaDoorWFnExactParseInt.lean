/- The walk of the law FnExactParseInt through its contracts. FnExactParseInt returns true for every text (the card of it, tied to the program). No conditions. -/
import Derived.Test.YtpgmkcnpbhalmaaDoorLaid5
namespace Go.Proofs.YtpgmkcnpbhalmaaDoor
open Go.RowKit
set_option linter.unusedVariables false
set_option linter.unusedSimpArgs false

set_option maxHeartbeats 1000000 in
theorem walk_FnExactParseInt (q : ByteArray) (w : World) (hsq : q.size ≤ maxLen) (hL : laidMetH Tryd.prog lst5 w) (hsh : w.ShapedOpen Tryd.prog) :
    Calls Tryd.prog 6 #[.string q] w fun e w' => e = .returned (.bool true) ∧ Below w.heap.size w w' := by
  obtain ⟨l, rfl⟩ : ∃ l : List UInt8, q = ⟨l.toArray⟩ := ⟨q.data.toList, by cases q; simp⟩
  have HT := Lib.hid (tab_of5 hL)
  have HE := Lib.hid (err_of5 hL)
  clear hL hsh
  by_cases hn : l.length ≤ 1048576
  rotate_left
  · have hz : (1048576 : Int) < (l.length : Int) := by omega
    go_enter Tryd.func6, Tryd.ntmps6
    go_wp2
    go_ret
    exact ⟨rfl, Below.refl _ _⟩
  have hz : ¬ (1048576 : Int) < (l.length : Int) := by omega
  have HN := Lib.hid (show l.length ≤ 4611686018427387904 by omega)
  go_enter Tryd.func6, Tryd.ntmps6
  go_wp2_with fail
  refine (s_ParseInt_any l _ HN.out).mono ?_
  rintro e w1 ⟨rfl, hb1⟩
  have HT1 := Lib.hid (HT.out.keep hb1)
  have HE1 := Lib.hid (HE.out.keep hb1)
  go_wp2_with fail
  refine (i_ParseInt_any l _ HN.out HT1.out HE1.out).mono ?_
  rintro e w2 ⟨rfl, hb2⟩
  go_wp2
  go_ret
  exact ⟨rfl, below_next hb1 hb2⟩
end Go.Proofs.YtpgmkcnpbhalmaaDoor
