/- Contracts of AssemblyText in the program and in the reference. The tables read as they were laid. -/
import Derived.Test.YtlahpnihnpmgoaaDoorAu
namespace Go.Proofs.YtlahpnihnpmgoaaDoor
open Go.RowKit
set_option linter.unusedVariables false
set_option linter.unusedSimpArgs false

theorem uN_le (o : Int) : uN o ≤ 65535 := by unfold uN; (repeat' split) <;> omega
theorem insB_bd {o a b n : Int} (h : insB o a b n = true) : (0 ≤ o ∧ o ≤ 9) ∧ (0 ≤ a ∧ a ≤ 3) ∧ (0 ≤ b ∧ b ≤ 3) ∧ 0 ≤ n ∧ n ≤ 65535 := by
  unfold insB at h
  rw [Bool.and_eq_true, Bool.and_eq_true, Bool.and_eq_true, inB_iff, inB_iff, inB_iff, inB_iff] at h
  obtain ⟨h1, h2, h3, h4⟩ := h
  have := uN_le o
  refine ⟨h1, ⟨h2.1, ?_⟩, ⟨h3.1, ?_⟩, h4.1, by omega⟩
  · have := h2.2; split at this <;> omega
  · have := h3.2; split at this <;> omega
theorem op_cases {o : Int} (h0 : 0 ≤ o) (h1 : o ≤ 9) : o = 0 ∨ o = 1 ∨ o = 2 ∨ o = 3 ∨ o = 4 ∨ o = 5 ∨ o = 6 ∨ o = 7 ∨ o = 8 ∨ o = 9 := by omega
theorem i_assemblyText_ins {o a b n : Int} (h : insB o a b n = true) (w : World) (ht : Tab w) (hN : Nms w) :
    Calls Tryd.prog 23 #[insV o a b n] w fun e w' => e = .returned (.string ⟨(asmL o a b n).toArray⟩) ∧ Below w.heap.size w w' := by
  obtain ⟨⟨o0, o1⟩, ⟨a0, a1⟩, ⟨b0, b1⟩, n0, n1⟩ := insB_bd h
  rcases op_cases o0 o1 with rfl | rfl | rfl | rfl | rfl | rfl | rfl | rfl | rfl | rfl
  · exact i_assemblyText_0 a b n w ht hN a0 a1 b0 b1 n0 n1
  · exact i_assemblyText_1 a b n w ht hN a0 a1 b0 b1 n0 n1
  · exact i_assemblyText_2 a b n w ht hN a0 a1 b0 b1 n0 n1
  · exact i_assemblyText_3 a b n w ht hN a0 a1 b0 b1 n0 n1
  · exact i_assemblyText_4 a b n w ht hN a0 a1 b0 b1 n0 n1
  · exact i_assemblyText_5 a b n w ht hN a0 a1 b0 b1 n0 n1
  · exact i_assemblyText_6 a b n w ht hN a0 a1 b0 b1 n0 n1
  · exact i_assemblyText_7 a b n w ht hN a0 a1 b0 b1 n0 n1
  · exact i_assemblyText_8 a b n w ht hN a0 a1 b0 b1 n0 n1
  · exact i_assemblyText_9 a b n w ht hN a0 a1 b0 b1 n0 n1
theorem l3Text_ins {o a b n : Int} (h : insB o a b n = true) (w : World) :
    Calls Tryd.prog 22 #[insV o a b n] w fun e w' => e = .returned (.string ⟨(asmL o a b n).toArray⟩) ∧ Below w.heap.size w w' := by
  obtain ⟨⟨o0, o1⟩, ⟨a0, a1⟩, ⟨b0, b1⟩, n0, n1⟩ := insB_bd h
  rcases op_cases o0 o1 with rfl | rfl | rfl | rfl | rfl | rfl | rfl | rfl | rfl | rfl
  · exact l3Text_0 a b n w a0 a1 b0 b1 n0 n1
  · exact l3Text_1 a b n w a0 a1 b0 b1 n0 n1
  · exact l3Text_2 a b n w a0 a1 b0 b1 n0 n1
  · exact l3Text_3 a b n w a0 a1 b0 b1 n0 n1
  · exact l3Text_4 a b n w a0 a1 b0 b1 n0 n1
  · exact l3Text_5 a b n w a0 a1 b0 b1 n0 n1
  · exact l3Text_6 a b n w a0 a1 b0 b1 n0 n1
  · exact l3Text_7 a b n w a0 a1 b0 b1 n0 n1
  · exact l3Text_8 a b n w a0 a1 b0 b1 n0 n1
  · exact l3Text_9 a b n w a0 a1 b0 b1 n0 n1

set_option maxHeartbeats 1000000 in
theorem i_AssemblyText_eq {o a b n : Int} {r : Bool} (hT : insB o a b n = r) (w : World) (ht : Tab w) (hN : Nms w) :
    Calls Tryd.prog 8 #[insV o a b n] w fun e w' => e = .returned (.tuple #[.string (selB r (asmL o a b n)), .bool r]) ∧ Below w.heap.size w w' := by
  have HT := Lib.hid hT
  clear hT
  have HTb := Lib.hid ht
  have HNm := Lib.hid hN
  clear ht hN
  cases r
  all_goals
    go_enter Tryd.func8, Tryd.ntmps8
    go_wp2_with fail
    refine (i_IsInstruction_eq HT.out _).mono ?_
    rintro e w1 ⟨rfl, hb1⟩
    have C1 := ((Box.new w _ _).keep hb1).cell
    have HB1 := Lib.hid (below_next (below_alloc _ _) hb1)
    clear hb1
    go_wp2_with fail
  · go_ret2
    exact ⟨rfl, HB1.out⟩
  · refine (i_assemblyText_ins HT.out _ (HTb.out.keep HB1.out) (HNm.out.keep HB1.out)).mono ?_
    rintro e w2 ⟨rfl, hb2⟩
    go_wp2
    go_ret2
    exact ⟨rfl, below_next HB1.out hb2⟩
set_option maxHeartbeats 1000000 in
theorem s_AssemblyText_eq {o a b n : Int} {r : Bool} (hT : insB o a b n = r) (w : World) :
    Calls Tryd.prog 6 #[insV o a b n] w fun e w' => e = .returned (.tuple #[.string (selB r (asmL o a b n)), .bool r]) ∧ Below w.heap.size w w' := by
  have HT := Lib.hid hT
  clear hT
  cases r
  all_goals
    go_enter Tryd.func6, Tryd.ntmps6
    go_wp2_with fail
    refine (l3One_eq HT.out _).mono ?_
    rintro e w1 ⟨rfl, hb1⟩
    have C1 := ((Box.new w _ _).keep hb1).cell
    have HB1 := Lib.hid (below_next (below_alloc _ _) hb1)
    clear hb1
    go_wp2_with fail
  · go_ret2
    exact ⟨rfl, HB1.out⟩
  · refine (l3Text_ins HT.out _).mono ?_
    rintro e w2 ⟨rfl, hb2⟩
    go_wp2
    go_ret2
    exact ⟨rfl, below_next HB1.out hb2⟩
end Go.Proofs.YtlahpnihnpmgoaaDoor
