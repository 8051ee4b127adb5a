/- The walk of the law FnExactParseAssembly through its contracts. FnExactParseAssembly returns true for every text (the card of it, tied to the program). No conditions. -/
import Derived.Test.YtlahpnihnpmgoaaDoorPg
import Derived.Test.YtlahpnihnpmgoaaDoorGb
import Derived.Test.YtlahpnihnpmgoaaDoorLaid8
namespace Go.Proofs.YtlahpnihnpmgoaaDoor
open Go.RowKit
set_option linter.unusedVariables false
set_option linter.unusedSimpArgs false

set_option maxHeartbeats 2000000 in
theorem walk_FnExactParseAssembly (q : ByteArray) (w : World) (hsq : q.size ≤ maxLen) (hL : laidMetH Tryd.prog lst8 w) (hsh : w.ShapedOpen Tryd.prog) :
    Calls Tryd.prog 4 #[.string q] w fun e w' => e = .returned (.bool true) ∧ Below w.heap.size w w' := by
  obtain ⟨l, rfl⟩ : ∃ l : List UInt8, q = ⟨l.toArray⟩ := ⟨q.data.toList, by cases q; simp⟩
  have HE := Lib.hid (ev_of8 hL)
  have HM := Lib.hid (Mx.of hsh)
  clear hL hsh
  by_cases hn : l.length ≤ 1048576
  rotate_left
  · have hz : (1048576 : Int) < (l.length : Int) := by omega
    go_enter Tryd.func4, Tryd.ntmps4
    go_wp2
    go_ret
    exact ⟨rfl, Below.refl _ _⟩
  have hz : ¬ (1048576 : Int) < (l.length : Int) := by omega
  go_enter Tryd.func4, Tryd.ntmps4
  go_wp2_with fail
  refine (s_ParseAssembly_any l _ hn).mono ?_
  rintro e w1 ⟨o, a, b, n, ok, rfl, hp, hb1⟩
  have HP := Lib.hid hp
  have HB1 := Lib.hid (below_next hb1 (below_alloc w1 (.cells #[.int .i64 o, .int .i64 a, .int .i64 b, .int .i64 n] 26)))
  have HX1 := Lib.hid (Box.new w1 26 #[.int .i64 o, .int .i64 a, .int .i64 b, .int .i64 n])
  clear hp hb1
  go_wp2_with fail
  refine (i_ParseAssembly_any l _ hn (HE.out.keep HB1.out) (HM.out.keep HB1.out)).mono ?_
  rintro e w2 ⟨o', a', b', n', ok', rfl, hp, hb2⟩
  obtain ⟨⟨rfl, rfl, rfl, rfl⟩, rfl⟩ := HP.out.unique hp
  have HB2 := Lib.hid (below_next (below_next HB1.out hb2) (below_alloc w2 (.cells #[.int .i64 o, .int .i64 a, .int .i64 b, .int .i64 n] 26)))
  have HX2 := Lib.hid ((HX1.out.keep hb2).alloc (.cells #[.int .i64 o, .int .i64 a, .int .i64 b, .int .i64 n] 26))
  have HY2 := Lib.hid (Box.new w2 26 #[.int .i64 o, .int .i64 a, .int .i64 b, .int .i64 n])
  clear hp hb2 HP HB1 HX1
  go_upto_region 5 with (fail)
  obtain ⟨w3, hw3⟩ : ∃ w3, w3 = w2.alloc (.cells #[.int .i64 o, .int .i64 a, .int .i64 b, .int .i64 n] 26) := ⟨_, rfl⟩
  obtain ⟨g1, hg1⟩ : ∃ g, g = w1.heap.size := ⟨_, rfl⟩
  obtain ⟨g2, hg2⟩ : ∃ g, g = w2.heap.size := ⟨_, rfl⟩
  rw [← hw3, ← hg1] at HX2
  rw [← hw3, ← hg2] at HY2
  rw [← hw3] at HB2
  rw [← hw3, ← hg1, ← hg2]
  clear hw3 hg1 hg2
  have C1 := HX2.out.cell
  have C2 := HY2.out.cell
  have t1 : (ok != ok) = false := by simp
  go_wp2_with fail
  refine (eqInstruction_same _ _ _ _ _).mono ?_
  rintro e w4 ⟨rfl, hb4⟩
  have HB4 := Lib.hid (below_next HB2.out hb4)
  clear hb4 C1 C2
  go_wp2
  go_ret
  exact ⟨rfl, HB4.out⟩
end Go.Proofs.YtlahpnihnpmgoaaDoor
