/- The walk of the law FnExactCompactMoves through its contracts. FnExactCompactMoves returns true for all arguments. No conditions. -/
import Derived.Test.YtcbfljfmicjacaaCb
namespace Go.Proofs.Ytcbfljfmicjacaa
open Go.RowKit
set_option linter.unusedVariables false
set_option linter.unusedSimpArgs false

set_option maxHeartbeats 4000000 in
theorem walk_FnExactCompactMoves (Axs : Option Addr) (nxs cxs : Nat) (xs : List Int) (w : World) (rAxs : Rd w 1 Axs nxs (I xs)) (_ : ∀ x ∈ xs, (Lit.int .i64 x).wf = true) :
    Calls Try.prog 12 #[.slice Axs nxs cxs] w fun e w' => e = .returned (.bool true) ∧ Below w.heap.size w w' := by
  have hlxs := rAxs.len
  by_cases hnxs : nxs ≤ 1048576
  rotate_left
  · have hzxs : (1048576 : Int) < (nxs : Int) := by omega
    go_enter Try.func12, Try.ntmps12
    go_wp2
    go_ret
    exact ⟨rfl, Below.refl _ _⟩
  have hzxs : ¬ (1048576 : Int) < (nxs : Int) := by omega
  have HLxs := Lib.hid hlxs
  clear hlxs
  have hlen : (selA (ownB xs) (cmF xs.length xs).1).length ≤ 1048576 := by have := HLxs.out; have := (cmF_len xs.length xs).2; unfold selA; split <;> simp <;> omega
  have hlen2 : (selL (ownB xs) (cmF xs.length xs).2).length ≤ 1048576 := by have := HLxs.out; have := (cmF_len xs.length xs).1; unfold selL; split <;> simp <;> omega
  have S0 := Sep.start w
  go_enter Try.func12, Try.ntmps12
  go_wp2_with fail
  refine (toIntS_any Axs nxs cxs xs _ (rAxs.sep S0) (by omega)).mono ?_
  rintro e w1 ⟨A1, c1, rfl, ho1, hb1⟩
  have S1 := S0.new hb1 ho1
  try simp only [List.nil_append, List.cons_append, List.set_cons_zero, List.set_cons_succ] at S1
  clear ho1 hb1
  go_wp2_with fail
  refine (s_CompactMoves_any A1 nxs c1 xs _ (S1.rd 0 rfl) (by omega)).mono ?_
  rintro e w2 ⟨B2_0, d2_0, B2_1, d2_1, rfl, ho2_0, ho2_1, hp2, hb2⟩
  have S2 := S1.new2 hb2 ho2_0 ho2_1 hp2
  try simp only [List.nil_append, List.cons_append, List.set_cons_zero, List.set_cons_succ] at S2
  clear S1
  clear ho2_0 ho2_1 hp2 hb2
  go_wp2_with fail
  refine (toIntS_any Axs nxs cxs xs _ (rAxs.sep S2) (by omega)).mono ?_
  rintro e w3 ⟨A3, c3, rfl, ho3, hb3⟩
  have S3 := S2.new hb3 ho3
  try simp only [List.nil_append, List.cons_append, List.set_cons_zero, List.set_cons_succ] at S3
  clear S2
  clear ho3 hb3
  go_wp2_with fail
  refine (i_CompactMoves_any A3 nxs c3 xs _ (S3.rd 3 rfl) (by omega)).mono ?_
  rintro e w4 ⟨B4_0, d4_0, B4_1, d4_1, rfl, ho4_0, ho4_1, hp4, hb4⟩
  have S4 := S3.new2 hb4 ho4_0 ho4_1 hp4
  try simp only [List.nil_append, List.cons_append, List.set_cons_zero, List.set_cons_succ] at S4
  clear S3
  clear ho4_0 ho4_1 hp4 hb4
  go_wp2_with fail
  refine (eqA2S_same B4_0 B2_0 (selA (ownB xs) (cmF xs.length xs).1).length d4_0 d2_0 (selA (ownB xs) (cmF xs.length xs).1) _ (S4.rd 4 rfl) (S4.rd 1 rfl) (by omega)).mono ?_
  rintro e w5 ⟨rfl, hb5⟩
  have S5 := S4.below hb5
  try simp only [List.nil_append, List.cons_append, List.set_cons_zero, List.set_cons_succ] at S5
  clear S4
  clear hb5
  go_wp2_with fail
  refine (eqIntS_same B4_1 B2_1 (selL (ownB xs) (cmF xs.length xs).2).length d4_1 d2_1 (selL (ownB xs) (cmF xs.length xs).2) _ (S5.rd 5 rfl) (S5.rd 2 rfl) (by omega)).mono ?_
  rintro e w6 ⟨rfl, hb6⟩
  have S6 := S5.below hb6
  try simp only [List.nil_append, List.cons_append, List.set_cons_zero, List.set_cons_succ] at S6
  clear S5
  clear hb6
  go_wp2_with fail
  refine (toIntS_any Axs nxs cxs xs _ (rAxs.sep S6) (by omega)).mono ?_
  rintro e w7 ⟨A7, c7, rfl, ho7, hb7⟩
  have S7 := S6.new hb7 ho7
  try simp only [List.nil_append, List.cons_append, List.set_cons_zero, List.set_cons_succ] at S7
  clear S6
  clear ho7 hb7
  go_wp2_with fail
  refine (eqIntS_same A3 A7 nxs c3 c7 xs _ (S7.rd 3 rfl) (S7.rd 6 rfl) (by omega)).mono ?_
  rintro e w8 ⟨rfl, hb8⟩
  have S8 := S7.below hb8
  try simp only [List.nil_append, List.cons_append, List.set_cons_zero, List.set_cons_succ] at S8
  clear S7
  clear hb8
  go_wp2_with fail
  refine (markIntS_any A3 nxs c3 _ xs 1 _ (S8.own 3 _ rfl) (by omega) (by omega) (by omega)).mono ?_
  rintro e w9 ⟨rfl, ho9, hg9⟩
  have S9 := S8.write 3 rfl hg9 _ ho9
  try simp only [List.nil_append, List.cons_append, List.set_cons_zero, List.set_cons_succ] at S9
  clear S8
  clear ho9 hg9
  go_wp2_with fail
  refine (eqA2S_same B4_0 B2_0 (selA (ownB xs) (cmF xs.length xs).1).length d4_0 d2_0 (selA (ownB xs) (cmF xs.length xs).1) _ (S9.rd 4 rfl) (S9.rd 1 rfl) (by omega)).mono ?_
  rintro e w10 ⟨rfl, hb10⟩
  have S10 := S9.below hb10
  try simp only [List.nil_append, List.cons_append, List.set_cons_zero, List.set_cons_succ] at S10
  clear S9
  clear hb10
  go_wp2_with fail
  refine (eqIntS_same B4_1 B2_1 (selL (ownB xs) (cmF xs.length xs).2).length d4_1 d2_1 (selL (ownB xs) (cmF xs.length xs).2) _ (S10.rd 5 rfl) (S10.rd 2 rfl) (by omega)).mono ?_
  rintro e w11 ⟨rfl, hb11⟩
  have S11 := S10.below hb11
  try simp only [List.nil_append, List.cons_append, List.set_cons_zero, List.set_cons_succ] at S11
  clear S10
  clear hb11
  go_wp2_with fail
  refine (markA2S_any B4_0 (selA (ownB xs) (cmF xs.length xs).1).length d4_0 _ (selA (ownB xs) (cmF xs.length xs).1) 1 _ (S11.own 4 _ rfl) (by omega) (by omega) (by omega)).mono ?_
  rintro e w12 ⟨rfl, ho12, hg12⟩
  have S12 := S11.write 4 rfl hg12 _ ho12
  try simp only [List.nil_append, List.cons_append, List.set_cons_zero, List.set_cons_succ] at S12
  clear S11
  clear ho12 hg12
  go_wp2_with fail
  refine (markIntS_any B4_1 (selL (ownB xs) (cmF xs.length xs).2).length d4_1 _ (selL (ownB xs) (cmF xs.length xs).2) (1 + (((selA (ownB xs) (cmF xs.length xs).1).length : Nat) : Int) * 2) _ (S12.own 5 _ rfl) (by omega) (by omega) (by omega)).mono ?_
  rintro e w13 ⟨rfl, ho13, hg13⟩
  have S13 := S12.write 5 rfl hg13 _ ho13
  try simp only [List.nil_append, List.cons_append, List.set_cons_zero, List.set_cons_succ] at S13
  clear S12
  clear ho13 hg13
  go_wp2_with fail
  refine (heldA2S_marks B4_0 (selA (ownB xs) (cmF xs.length xs).1).length d4_0 1 _ (S13.rd 4 rfl) (by omega) (by omega) (by omega)).mono ?_
  rintro e w14 ⟨rfl, hb14⟩
  have S14 := S13.below hb14
  try simp only [List.nil_append, List.cons_append, List.set_cons_zero, List.set_cons_succ] at S14
  clear S13
  clear hb14
  go_wp2_with fail
  refine (heldIntS_marks B4_1 (selL (ownB xs) (cmF xs.length xs).2).length d4_1 (1 + (((selA (ownB xs) (cmF xs.length xs).1).length : Nat) : Int) * 2) _ (S14.rd 5 rfl) (by omega) (by omega) (by omega)).mono ?_
  rintro e w15 ⟨rfl, hb15⟩
  have S15 := S14.below hb15
  try simp only [List.nil_append, List.cons_append, List.set_cons_zero, List.set_cons_succ] at S15
  clear S14
  clear hb15
  go_wp2_with fail
  refine (toIntS_any Axs nxs cxs xs _ (rAxs.sep S15) (by omega)).mono ?_
  rintro e w16 ⟨A16, c16, rfl, ho16, hb16⟩
  have S16 := S15.new hb16 ho16
  try simp only [List.nil_append, List.cons_append, List.set_cons_zero, List.set_cons_succ] at S16
  clear S15
  clear ho16 hb16
  go_wp2_with fail
  refine (i_CompactMoves_any A16 nxs c16 xs _ (S16.rd 7 rfl) (by omega)).mono ?_
  rintro e w17 ⟨B17_0, d17_0, B17_1, d17_1, rfl, ho17_0, ho17_1, hp17, hb17⟩
  have S17 := S16.new2 hb17 ho17_0 ho17_1 hp17
  try simp only [List.nil_append, List.cons_append, List.set_cons_zero, List.set_cons_succ] at S17
  clear S16
  clear ho17_0 ho17_1 hp17 hb17
  go_wp2_with fail
  refine (eqA2S_same B17_0 B2_0 (selA (ownB xs) (cmF xs.length xs).1).length d17_0 d2_0 (selA (ownB xs) (cmF xs.length xs).1) _ (S17.rd 8 rfl) (S17.rd 1 rfl) (by omega)).mono ?_
  rintro e w18 ⟨rfl, hb18⟩
  have S18 := S17.below hb18
  try simp only [List.nil_append, List.cons_append, List.set_cons_zero, List.set_cons_succ] at S18
  clear S17
  clear hb18
  go_wp2_with fail
  refine (eqIntS_same B17_1 B2_1 (selL (ownB xs) (cmF xs.length xs).2).length d17_1 d2_1 (selL (ownB xs) (cmF xs.length xs).2) _ (S18.rd 9 rfl) (S18.rd 2 rfl) (by omega)).mono ?_
  rintro e w19 ⟨rfl, hb19⟩
  have S19 := S18.below hb19
  try simp only [List.nil_append, List.cons_append, List.set_cons_zero, List.set_cons_succ] at S19
  clear S18
  clear hb19
  go_wp2_with fail
  refine (heldA2S_marks B4_0 (selA (ownB xs) (cmF xs.length xs).1).length d4_0 1 _ (S19.rd 4 rfl) (by omega) (by omega) (by omega)).mono ?_
  rintro e w20 ⟨rfl, hb20⟩
  have S20 := S19.below hb20
  try simp only [List.nil_append, List.cons_append, List.set_cons_zero, List.set_cons_succ] at S20
  clear S19
  clear hb20
  go_wp2_with fail
  refine (heldIntS_marks B4_1 (selL (ownB xs) (cmF xs.length xs).2).length d4_1 (1 + (((selA (ownB xs) (cmF xs.length xs).1).length : Nat) : Int) * 2) _ (S20.rd 5 rfl) (by omega) (by omega) (by omega)).mono ?_
  rintro e w21 ⟨rfl, hb21⟩
  have S21 := S20.below hb21
  try simp only [List.nil_append, List.cons_append, List.set_cons_zero, List.set_cons_succ] at S21
  clear S20
  clear hb21
  go_wp2
  go_ret
  exact ⟨rfl, S21.bel⟩
end Go.Proofs.Ytcbfljfmicjacaa
