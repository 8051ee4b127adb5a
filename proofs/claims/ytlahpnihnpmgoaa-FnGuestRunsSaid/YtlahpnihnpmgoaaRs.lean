/- Contracts of StepGuest in the program and in the reference. Lengths at most 2^20. -/
import Derived.Test.YtlahpnihnpmgoaaGs
namespace Go.Proofs.Ytlahpnihnpmgoaa
open Go.RowKit
set_option linter.unusedVariables false
set_option linter.unusedSimpArgs false

theorem perm4a {α : Type} (x p q r : α) : [x, p, q, r].Perm [p, q, r, x] := ((List.Perm.swap p x _).trans (.cons _ ((List.Perm.swap q x _).trans (.cons _ (.swap _ _ _)))))
theorem perm4b {α : Type} (p x q r : α) : [p, x, q, r].Perm [p, q, r, x] := .cons _ ((List.Perm.swap q x _).trans (.cons _ (.swap _ _ _)))
theorem perm4c {α : Type} (p q x r : α) : [p, q, x, r].Perm [p, q, r, x] := .cons _ (.cons _ (.swap _ _ _))
/-- what registers of a program are -/
theorem reg_in {ps : List RInstruction} {rs : List Int} {a : Int} (h : regB ps rs a = true) : ∃ (j : Nat) (o n : Int) (ja jb : Nat) (xa xb : Int), a = (j : Int) ∧ j < ps.length ∧ ps.length ≤ 16 ∧ rs.length = 4 ∧ ps[j]? = some ⟨o, ja, jb, n⟩ ∧ ja < 4 ∧ jb < 4 ∧
    rs[ja]? = some xa ∧ rs[jb]? = some xb ∧ 0 ≤ xa ∧ xa ≤ 65535 ∧ 0 ≤ xb ∧ xb ≤ 65535 ∧ 0 ≤ n ∧ n ≤ 65535 ∧ (o = 6 → n ≤ 15) ∧ 0 ≤ o ∧ o ≤ 9 := by
  unfold regB progB at h
  simp only [Bool.and_eq_true, decide_eq_true_eq, Bool.not_eq_true', inB_iff] at h
  obtain ⟨⟨⟨h1, h2⟩, h3⟩, h4, h5, h6, h7⟩ := h
  obtain ⟨j, rfl⟩ := Int.eq_ofNat_of_zero_le h6
  have hj : j < ps.length := by omega
  have hx : ps[j]? = some ps[j] := List.getElem?_eq_getElem hj
  have hv : insB ps[j].f0 ps[j].f1 ps[j].f2 ps[j].f3 = true := by
    have := List.any_eq_false.1 h3 ps[j] (List.getElem_mem hj)
    simpa [badIns] using this
  obtain ⟨⟨o, a, b, n⟩, hxx⟩ : ∃ x, x = ps[j] := ⟨_, rfl⟩
  rw [← hxx] at hx hv
  unfold insB at hv
  simp only [Bool.and_eq_true, inB_iff] at hv
  obtain ⟨ho, ha, hb, hn⟩ := hv
  obtain ⟨ja, rfl⟩ := Int.eq_ofNat_of_zero_le ha.1
  obtain ⟨jb, rfl⟩ := Int.eq_ofNat_of_zero_le hb.1
  have hja : ja < 4 := by have := ha.2; split at this <;> omega
  have hjb : jb < 4 := by have := hb.2; split at this <;> omega
  have hw : ∀ (i : Nat) (h : i < 4), ∃ x, rs[i]? = some x ∧ 0 ≤ x ∧ x ≤ 65535 := by
    intro i hi
    have hl : i < rs.length := by omega
    refine ⟨rs[i], List.getElem?_eq_getElem hl, ?_⟩
    have := List.any_eq_false.1 h5 rs[i] (List.getElem_mem hl)
    simpa [inB_iff] using this
  obtain ⟨xa, e1, e2, e3⟩ := hw ja hja
  obtain ⟨xb, e4, e5, e6⟩ := hw jb hjb
  have hu : uN o ≤ 65535 ∧ (o = 6 → uN o = 15) := by
    unfold uN
    refine ⟨by (repeat' split) <;> omega, fun h6 => by subst h6; rfl⟩
  exact ⟨j, o, n, ja, jb, xa, xb, rfl, hj, by omega, h4, hx, hja, hjb, e1, e4, e2, e3, e5, e6, hn.1, by omega, fun h6 => by have := hu.2 h6; omega, ho.1, ho.2⟩
/-- a step of registers, by the place -/
def stP (ps : List RInstruction) (rs : List Int) (a : Int) (z : Bool) : GS := stG ps.length (ps[a.toNat]?.getD zInstruction) rs a z
theorem stP_at {ps : List RInstruction} {rs : List Int} {j : Nat} {z : Bool} {x : RInstruction} (h : ps[j]? = some x) : stP ps rs (j : Int) z = stG ps.length x rs j z := by
  simp [stP, h]
/-- StepGuest's registers -/
def stR (ps : List RInstruction) (rs : List Int) (a : Int) (z s : Bool) : GS := if regB ps rs a && !s then stP ps rs a z else ⟨[], 0, false, false⟩
theorem stR_len (ps : List RInstruction) (rs : List Int) (a : Int) (z s : Bool) : (stR ps rs a z s).rs.length ≤ rs.length := by
  unfold stR
  split
  · unfold stP; rw [stG_len]; exact Nat.le_refl _
  · exact Nat.zero_le _
theorem i_AreRegisters_r {ps : List RInstruction} {rs : List Int} {a : Int} {r : Bool} (hR : regB ps rs a = r) {Ap : Option Addr} {np cp : Nat} {A : Option Addr} {n c : Nat} {z s : Bool} {w : World} (hp : Rd w 4 Ap np (J cInstruction ps)) (hr : Rd w 1 A n (I rs)) (hnp : np ≤ 1048576) (hn : n ≤ 1048576) :
    Calls Try.prog 20 #[.slice Ap np cp, regV A n c a z s] w fun e w' => e = .returned (.bool r) ∧ Below w.heap.size w w' := i_AreRegisters_eq Ap np cp ps A n c rs a z s w hp hr hnp hn r hR
theorem l3Good_r {ps : List RInstruction} {rs : List Int} {a : Int} {r : Bool} (hR : regB ps rs a = r) {Ap : Option Addr} {np cp : Nat} {A : Option Addr} {n c : Nat} {z s : Bool} {w : World} (hp : Rd w 4 Ap np (J cInstruction ps)) (hr : Rd w 1 A n (I rs)) (hnp : np ≤ 1048576) (hn : n ≤ 1048576) :
    Calls Try.prog 41 #[.slice Ap np cp, regV A n c a z s] w fun e w' => e = .returned (.bool r) ∧ Below w.heap.size w w' := l3Good_eq Ap np cp ps A n c rs a z s w hp hr hnp hn r hR
/-- a step, by the place -/
theorem stepGuest_p (Ap : Option Addr) (np cp : Nat) (ps : List RInstruction) (A : Option Addr) (n c : Nat) (rs : List Int) (a : Int) (z s : Bool) (w : World) (hp : Rd w 4 Ap np (J cInstruction ps)) (hr : Rd w 1 A n (I rs)) (hR : regB ps rs a = true) :
    Calls Try.prog 40 #[.slice Ap np cp, regV A n c a z s] w fun e w' => ∃ A' c', e = .returned (regV A' 4 c' (stP ps rs a z).a (stP ps rs a z).z (stP ps rs a z).s) ∧ Own w' w.heap.size (ti A' 4 c' (stP ps rs a z).rs) ∧ Below w.heap.size w w' := by
  obtain ⟨j, o, q, ja, jb, xa, xb, rfl, h1, h2, h3, h4, h5, h6, h7, h8, h9, h10, h11, h12, h13, h14, h15, h16, h17⟩ := reg_in hR
  have hn := hr.len
  have hnp := hp.lenS posInstruction cInstruction_len
  rw [h3] at hn
  subst hn hnp
  rw [stP_at h4]
  exact stepGuest_any Ap ps.length cp ps A c rs j z s o q ja jb xa xb w hp hr (by omega) h1 h4 h5 h6 h7 h8 h9 h10 h11 h12 h13 h14 h15 h16 h17
theorem l3Step_p (Ap : Option Addr) (np cp : Nat) (ps : List RInstruction) (A : Option Addr) (n c : Nat) (rs : List Int) (a : Int) (z s : Bool) (w : World) (hp : Rd w 4 Ap np (J cInstruction ps)) (hr : Rd w 1 A n (I rs)) (hR : regB ps rs a = true) :
    Calls Try.prog 44 #[.slice Ap np cp, regV A n c a z s] w fun e w' => ∃ A' c', e = .returned (regV A' 4 c' (stP ps rs a z).a (stP ps rs a z).z (stP ps rs a z).s) ∧ Own w' w.heap.size (ti A' 4 c' (stP ps rs a z).rs) ∧ Below w.heap.size w w' := by
  obtain ⟨j, o, q, ja, jb, xa, xb, rfl, h1, h2, h3, h4, h5, h6, h7, h8, h9, h10, h11, h12, h13, h14, h15, h16, h17⟩ := reg_in hR
  have hn := hr.len
  have hnp := hp.lenS posInstruction cInstruction_len
  rw [h3] at hn
  subst hn hnp
  rw [stP_at h4]
  exact l3Step_any Ap ps.length cp ps A c rs j z s o q ja jb xa xb w hp hr (by omega) h1 h4 h5 h6 h7 h8 h9 h10 h11 h12 h13 h14 h15 h16 h17
theorem stP_len {ps : List RInstruction} {rs : List Int} {a : Int} {z : Bool} (hR : regB ps rs a = true) : (stP ps rs a z).rs.length = 4 := by
  obtain ⟨j, o, q, ja, jb, xa, xb, rfl, h1, h2, h3, h4, _⟩ := reg_in hR
  rw [stP_at h4, stG_len]; exact h3
theorem own_nil0 {w : World} {B : Nat} : Own w B (ti none 0 0 []) := ⟨rfl, .inl ⟨rfl, rfl⟩⟩

set_option maxHeartbeats 2000000 in
theorem i_StepGuest_any (Ap : Option Addr) (np cp : Nat) (ps : List RInstruction) (A : Option Addr) (n c : Nat) (rs : List Int) (a : Int) (z s : Bool) (w : World) (hp : Rd w 4 Ap np (J cInstruction ps)) (hr : Rd w 1 A n (I rs)) (hnp : np ≤ 1048576) (hn : n ≤ 1048576) :
    Calls Try.prog 19 #[.slice Ap np cp, regV A n c a z s] w fun e w' => ∃ A' c', e = .returned (.tuple #[regV A' (stR ps rs a z s).rs.length c' (stR ps rs a z s).a (stR ps rs a z s).z (stR ps rs a z s).s, .bool (regB ps rs a && !s)]) ∧ Own w' w.heap.size (ti A' (stR ps rs a z s).rs.length c' (stR ps rs a z s).rs) ∧ Below w.heap.size w w' := by
  have S0 := (Sep.start w).new (below_alloc w _) (own_bx w 37 4 #[.slice A n c, .int .i64 a, .bool z, .bool s] rfl)
  have S1 := (S0.new (below_alloc _ _) (own_bx _ 37 4 #[.slice none 0 0, .int .i64 0, .bool false, .bool false] rfl))
  simp only [List.nil_append, List.cons_append, size_alloc] at S1
  have HS1 := Lib.hid S1
  clear S0 S1
  have C0 := own_box (HS1.out.own 0 _ rfl)
  have HR := Lib.hid hr
  have HP := Lib.hid hp
  clear hr hp
  by_cases hg : regB ps rs a = true ∧ s = false
  · obtain ⟨hg, rfl⟩ := hg
    have HG := Lib.hid hg
    have HL := Lib.hid (stP_len (z := z) hg)
    have hst : stR ps rs a z false = stP ps rs a z := by unfold stR; rw [hg]; rfl
    have HST := Lib.hid hst
    clear hg hst
    go_enter Try.func19, Try.ntmps19
    go_wp2_with fail
    refine (i_AreRegisters_r HG.out (HP.out.keep HS1.out.bel) (HR.out.keep HS1.out.bel) hnp hn).mono ?_
    rintro e w2 ⟨rfl, hb2⟩
    have HS2 := Lib.hid (HS1.out.below hb2)
    clear hb2 HS1 C0
    have C0 := own_box (HS2.out.own 0 _ rfl)
    go_wp2_with fail
    refine (stepGuest_p Ap np cp ps A n c rs a z false _ (HP.out.keep HS2.out.bel) (HR.out.keep HS2.out.bel) HG.out).mono ?_
    rintro e w3 ⟨A3, c3, rfl, ho3, hb3⟩
    have HS3 := Lib.hid (HS2.out.new hb3 ho3)
    clear hb3 ho3 HS2 C0
    have C1 := own_box (HS3.out.own 1 _ rfl)
    have F1 := own_free (HS3.out.own 1 _ rfl)
    have P4 := own_putAll [.slice A3 4 c3, .int .i64 (stP ps rs a z).a, .bool (stP ps rs a z).z, .bool (stP ps rs a z).s] _ _ 0 (HS3.out.own 1 _ rfl)
    have HS4 := Lib.hid (HS3.out.write 1 rfl P4.2 _ P4.1)
    clear P4 HS3
    go_wp2
    refine bodyPost_ret (v := .tuple #[regV A3 4 c3 (stP ps rs a z).a (stP ps rs a z).z (stP ps rs a z).s, .bool true]) (by simp [results, Try.results19, go_sem, C1, F1]) rfl ?_
    rw [HST.out, HG.out, HL.out]
    exact ⟨A3, c3, rfl, HS4.out.own 2 _ rfl, HS4.out.bel⟩
  · have hst : stR ps rs a z s = ⟨[], 0, false, false⟩ := by
      unfold stR
      cases hr2 : regB ps rs a <;> cases s <;> simp_all
    have HST := Lib.hid hst
    clear hst
    cases hr2 : regB ps rs a
    all_goals have HG := Lib.hid hr2
    all_goals clear hr2
    · clear hg
      go_enter Try.func19, Try.ntmps19
      go_wp2_with fail
      refine (i_AreRegisters_r HG.out (HP.out.keep HS1.out.bel) (HR.out.keep HS1.out.bel) hnp hn).mono ?_
      rintro e w2 ⟨rfl, hb2⟩
      have HS2 := Lib.hid (HS1.out.below hb2)
      clear hb2 HS1 C0
      have C0 := own_box (HS2.out.own 0 _ rfl)
      have C1 := own_box (HS2.out.own 1 _ rfl)
      have F1 := own_free (HS2.out.own 1 _ rfl)
      have P4 := own_putAll [.slice none 0 0, .int .i64 0, .bool false, .bool false] _ _ 0 (HS2.out.own 1 _ rfl)
      have HS4 := Lib.hid (HS2.out.write 1 rfl P4.2 _ P4.1)
      clear P4 HS2
      go_wp2
      refine bodyPost_ret (v := .tuple #[regV none 0 0 0 false false, .bool false]) (by simp [results, Try.results19, go_sem, C1, F1]) rfl ?_
      rw [HST.out]
      exact ⟨none, 0, rfl, own_nil0, HS4.out.bel⟩
    · have hs : s = true := by
        cases s with
        | true => rfl
        | false => exact absurd ⟨HG.out, rfl⟩ hg
      subst hs
      clear hg
      go_enter Try.func19, Try.ntmps19
      go_wp2_with fail
      refine (i_AreRegisters_r HG.out (HP.out.keep HS1.out.bel) (HR.out.keep HS1.out.bel) hnp hn).mono ?_
      rintro e w2 ⟨rfl, hb2⟩
      have HS2 := Lib.hid (HS1.out.below hb2)
      clear hb2 HS1 C0
      have C0 := own_box (HS2.out.own 0 _ rfl)
      have C1 := own_box (HS2.out.own 1 _ rfl)
      have F1 := own_free (HS2.out.own 1 _ rfl)
      have P4 := own_putAll [.slice none 0 0, .int .i64 0, .bool false, .bool false] _ _ 0 (HS2.out.own 1 _ rfl)
      have HS4 := Lib.hid (HS2.out.write 1 rfl P4.2 _ P4.1)
      clear P4 HS2
      go_wp2
      refine bodyPost_ret (v := .tuple #[regV none 0 0 0 false false, .bool false]) (by simp [results, Try.results19, go_sem, C1, F1]) rfl ?_
      rw [HST.out]
      exact ⟨none, 0, rfl, own_nil0, HS4.out.bel⟩

set_option maxHeartbeats 2000000 in
theorem s_StepGuest_any (Ap : Option Addr) (np cp : Nat) (ps : List RInstruction) (A : Option Addr) (n c : Nat) (rs : List Int) (a : Int) (z s : Bool) (w : World) (hp : Rd w 4 Ap np (J cInstruction ps)) (hr : Rd w 1 A n (I rs)) (hnp : np ≤ 1048576) (hn : n ≤ 1048576) :
    Calls Try.prog 23 #[.slice Ap np cp, regV A n c a z s] w fun e w' => ∃ A' c', e = .returned (.tuple #[regV A' (stR ps rs a z s).rs.length c' (stR ps rs a z s).a (stR ps rs a z s).z (stR ps rs a z s).s, .bool (regB ps rs a && !s)]) ∧ Own w' w.heap.size (ti A' (stR ps rs a z s).rs.length c' (stR ps rs a z s).rs) ∧ Below w.heap.size w w' := by
  have S0 := (Sep.start w).new (below_alloc w _) (own_bx w 37 4 #[.slice A n c, .int .i64 a, .bool z, .bool s] rfl)
  have S1 := (S0.new (below_alloc _ _) (own_bx _ 37 4 #[.slice none 0 0, .int .i64 0, .bool false, .bool false] rfl))
  simp only [List.nil_append, List.cons_append, size_alloc] at S1
  have HS1 := Lib.hid S1
  clear S0 S1
  have C0 := own_box (HS1.out.own 0 _ rfl)
  have HR := Lib.hid hr
  have HP := Lib.hid hp
  clear hr hp
  by_cases hg : regB ps rs a = true ∧ s = false
  · obtain ⟨hg, rfl⟩ := hg
    have HG := Lib.hid hg
    have HL := Lib.hid (stP_len (z := z) hg)
    have hst : stR ps rs a z false = stP ps rs a z := by unfold stR; rw [hg]; rfl
    have HST := Lib.hid hst
    clear hg hst
    go_enter Try.func23, Try.ntmps23
    go_wp2_with fail
    refine (l3Good_r HG.out (HP.out.keep HS1.out.bel) (HR.out.keep HS1.out.bel) hnp hn).mono ?_
    rintro e w2 ⟨rfl, hb2⟩
    have HS2 := Lib.hid (HS1.out.below hb2)
    clear hb2 HS1 C0
    have C0 := own_box (HS2.out.own 0 _ rfl)
    go_wp2_with fail
    refine (l3Step_p Ap np cp ps A n c rs a z false _ (HP.out.keep HS2.out.bel) (HR.out.keep HS2.out.bel) HG.out).mono ?_
    rintro e w3 ⟨A3, c3, rfl, ho3, hb3⟩
    have HS3 := Lib.hid (HS2.out.new hb3 ho3)
    clear hb3 ho3 HS2 C0
    have C1 := own_box (HS3.out.own 1 _ rfl)
    have F1 := own_free (HS3.out.own 1 _ rfl)
    have P4 := own_putAll [.slice A3 4 c3, .int .i64 (stP ps rs a z).a, .bool (stP ps rs a z).z, .bool (stP ps rs a z).s] _ _ 0 (HS3.out.own 1 _ rfl)
    have HS4 := Lib.hid (HS3.out.write 1 rfl P4.2 _ P4.1)
    clear P4 HS3
    go_wp2
    refine bodyPost_ret (v := .tuple #[regV A3 4 c3 (stP ps rs a z).a (stP ps rs a z).z (stP ps rs a z).s, .bool true]) (by simp [results, Try.results23, go_sem, C1, F1]) rfl ?_
    rw [HST.out, HG.out, HL.out]
    exact ⟨A3, c3, rfl, HS4.out.own 2 _ rfl, HS4.out.bel⟩
  · have hst : stR ps rs a z s = ⟨[], 0, false, false⟩ := by
      unfold stR
      cases hr2 : regB ps rs a <;> cases s <;> simp_all
    have HST := Lib.hid hst
    clear hst
    cases hr2 : regB ps rs a
    all_goals have HG := Lib.hid hr2
    all_goals clear hr2
    · clear hg
      go_enter Try.func23, Try.ntmps23
      go_wp2_with fail
      refine (l3Good_r HG.out (HP.out.keep HS1.out.bel) (HR.out.keep HS1.out.bel) hnp hn).mono ?_
      rintro e w2 ⟨rfl, hb2⟩
      have HS2 := Lib.hid (HS1.out.below hb2)
      clear hb2 HS1 C0
      have C0 := own_box (HS2.out.own 0 _ rfl)
      have C1 := own_box (HS2.out.own 1 _ rfl)
      have F1 := own_free (HS2.out.own 1 _ rfl)
      have P4 := own_putAll [.slice none 0 0, .int .i64 0, .bool false, .bool false] _ _ 0 (HS2.out.own 1 _ rfl)
      have HS4 := Lib.hid (HS2.out.write 1 rfl P4.2 _ P4.1)
      clear P4 HS2
      go_wp2
      refine bodyPost_ret (v := .tuple #[regV none 0 0 0 false false, .bool false]) (by simp [results, Try.results23, go_sem, C1, F1]) rfl ?_
      rw [HST.out]
      exact ⟨none, 0, rfl, own_nil0, HS4.out.bel⟩
    · have hs : s = true := by
        cases s with
        | true => rfl
        | false => exact absurd ⟨HG.out, rfl⟩ hg
      subst hs
      clear hg
      go_enter Try.func23, Try.ntmps23
      go_wp2_with fail
      refine (l3Good_r HG.out (HP.out.keep HS1.out.bel) (HR.out.keep HS1.out.bel) hnp hn).mono ?_
      rintro e w2 ⟨rfl, hb2⟩
      have HS2 := Lib.hid (HS1.out.below hb2)
      clear hb2 HS1 C0
      have C0 := own_box (HS2.out.own 0 _ rfl)
      have C1 := own_box (HS2.out.own 1 _ rfl)
      have F1 := own_free (HS2.out.own 1 _ rfl)
      have P4 := own_putAll [.slice none 0 0, .int .i64 0, .bool false, .bool false] _ _ 0 (HS2.out.own 1 _ rfl)
      have HS4 := Lib.hid (HS2.out.write 1 rfl P4.2 _ P4.1)
      clear P4 HS2
      go_wp2
      refine bodyPost_ret (v := .tuple #[regV none 0 0 0 false false, .bool false]) (by simp [results, Try.results23, go_sem, C1, F1]) rfl ?_
      rw [HST.out]
      exact ⟨none, 0, rfl, own_nil0, HS4.out.bel⟩
end Go.Proofs.Ytlahpnihnpmgoaa
