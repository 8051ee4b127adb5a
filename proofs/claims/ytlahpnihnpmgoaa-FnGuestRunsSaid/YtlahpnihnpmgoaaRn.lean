/- Contracts of RunGuest in the program and in the reference. Lengths at most 2^20. -/
import Derived.Test.YtlahpnihnpmgoaaRs
import Derived.Deep.DrawnRows
import Derived.Deep.CutRange
import Derived.Deep.RegionHeld3
namespace Go.Proofs.Ytlahpnihnpmgoaa
open Go.RowKit
set_option linter.unusedVariables false
set_option linter.unusedSimpArgs false
attribute [local go_sem ↓] Go.wp_at_zero Go.wp_at_succ

theorem stP_good {ps : List RInstruction} {rs : List Int} {a : Int} {z : Bool} (hR : regB ps rs a = true) : regB ps (stP ps rs a z).rs (stP ps rs a z).a = true := by
  obtain ⟨j, o, q, ja, jb, xa, xb, rfl, h1, h2, h3, h4, h5, h6, h7, h8, h9, h10, h11, h12, h13, h14, h15, h16, h17⟩ := reg_in hR
  have hl := stP_len (z := z) hR
  unfold regB at hR ⊢
  simp only [Bool.and_eq_true, decide_eq_true_eq, Bool.not_eq_true', inB_iff] at hR ⊢
  obtain ⟨hp, _, hw, _, _⟩ := hR
  refine ⟨hp, hl, ?_, ?_⟩
  · rw [stP_at h4]
    unfold stG
    dsimp only
    split
    · rw [List.any_eq_false] at hw ⊢
      intro x hx
      rcases List.mem_or_eq_of_mem_set hx with h | h
      · exact hw x h
      · have hv : stV ⟨o, ja, jb, q⟩ rs = vF o q xa xb := stV_eq h7 h8
        have := vF_bd (o := o) (n := q) h9 h10 h11 h12 h13 h14
        rw [h, hv]
        simp [inB_iff]
        exact this
    · exact hw
  · rw [stP_at h4]
    unfold stG
    dsimp only
    split
    · omega
    · rename_i he
      unfold enB at he
      simp only [Bool.or_eq_true, decide_eq_true_eq, not_or, beq_iff_eq] at he
      have hn : 0 ≤ nxI ⟨o, ja, jb, q⟩ (j : Int) z := by unfold nxI; dsimp only; split <;> omega
      omega
/-- a run: the registers, the steps -/
def runF (ps : List RInstruction) : Nat → GS → Int → GS × Int
  | 0, g, n => (g, n)
  | m + 1, g, n => if g.s then (g, n) else runF ps m (stP ps g.rs g.a g.z) (n + 1)
theorem runF_stop {ps : List RInstruction} {m : Nat} {g : GS} {n : Int} (h : g.s = true) : runF ps m g n = (g, n) := by
  cases m with
  | zero => rfl
  | succ m => rw [runF, if_pos h]
theorem runF_go {ps : List RInstruction} {m : Nat} {g : GS} {n : Int} (h : g.s = false) (hm : 0 < m) : runF ps m g n = runF ps (m - 1) (stP ps g.rs g.a g.z) (n + 1) := by
  cases m with
  | zero => omega
  | succ m => rw [runF, if_neg (by simp [h])]; rfl
/-- RunGuest's registers and steps -/
def rnB (ps : List RInstruction) (rs : List Int) (a most : Int) : Bool := regB ps rs a && inB most 0 1000
def rnR (ps : List RInstruction) (rs : List Int) (a : Int) (z s : Bool) (most : Int) : GS := if rnB ps rs a most then (runF ps most.toNat ⟨rs, a, z, s⟩ 0).1 else ⟨[], 0, false, false⟩
def rnN (ps : List RInstruction) (rs : List Int) (a : Int) (z s : Bool) (most : Int) : Int := if rnB ps rs a most then (runF ps most.toNat ⟨rs, a, z, s⟩ 0).2 else 0
theorem runF_len (ps : List RInstruction) : ∀ (m : Nat) (g : GS) (n : Int), regB ps g.rs g.a = true → (runF ps m g n).1.rs.length = 4
  | 0, g, n, h => by
    obtain ⟨_, _, _, _, _, _, _, _, _, _, h3, _⟩ := reg_in h
    exact h3
  | m + 1, g, n, h => by
    rw [runF]
    split
    · obtain ⟨_, _, _, _, _, _, _, _, _, _, h3, _⟩ := reg_in h
      exact h3
    · exact runF_len ps m _ _ (stP_good h)
theorem rnR_len (ps : List RInstruction) (rs : List Int) (a : Int) (z s : Bool) (most : Int) : (rnR ps rs a z s most).rs.length ≤ 4 := by
  unfold rnR
  split
  · rename_i h
    unfold rnB at h
    rw [Bool.and_eq_true] at h
    rw [runF_len ps _ ⟨rs, a, z, s⟩ _ h.1]; exact Nat.le_refl _
  · exact Nat.zero_le _
/-- what lies in memory in a run -/
abbrev rnL (w : World) (A : Option Addr) (n c : Nat) (a : Int) (z s : Bool) (g9 : Nat) (A9 : Option Addr) (c9 : Nat) (g : GS) : List Thing :=
  [bx 37 4 w.heap.size [.slice A n c, .int .i64 a, .bool z, .bool s], bx 37 4 (w.heap.size + 1) [.slice none 0 0, .int .i64 0, .bool false, .bool false], ti A9 4 c9 g.rs, bx 37 4 g9 [.slice A9 4 c9, .int .i64 g.a, .bool g.z, .bool g.s]]
theorem run_drop {W0 w : World} {x0 x1 x2 x3 x4 : Thing} (S : Sep W0 w [x0, x1, x2, x3, x4]) : Sep W0 w [x0, x1, x4, x3] := by
  have S2 : Sep W0 w ([x0, x1, x4, x3] ++ [x2]) := S.perm (perm2 ((List.Perm.swap x3 x2 _).trans ((List.Perm.cons _ (List.Perm.swap x4 x2 _)).trans (List.Perm.swap x4 x3 _))))
  exact S2.takeL

set_option maxRecDepth 100000 in
set_option maxHeartbeats 8000000 in
theorem i_RunGuest_any (Ap : Option Addr) (np cp : Nat) (ps : List RInstruction) (A : Option Addr) (n c : Nat) (rs : List Int) (a : Int) (z s : Bool) (most : Int) (w : World) (hp : Rd w 4 Ap np (J cInstruction ps)) (hr : Rd w 1 A n (I rs)) (hnp : np ≤ 1048576) (hn : n ≤ 1048576) :
    Calls Try.prog 16 #[.slice Ap np cp, regV A n c a z s, .int .i64 most] w fun e w' => ∃ A' c', e = .returned (.tuple #[regV A' (rnR ps rs a z s most).rs.length c' (rnR ps rs a z s most).a (rnR ps rs a z s most).z (rnR ps rs a z s most).s, .int .i64 (rnN ps rs a z s most), .bool (rnB ps rs a most)]) ∧ Own w' w.heap.size (ti A' (rnR ps rs a z s most).rs.length c' (rnR ps rs a z s most).rs) ∧ Below w.heap.size w w' := by
  have S0 := (Sep.start w).new (below_alloc w _) (own_bx w 37 4 #[.slice A n c, .int .i64 a, .bool z, .bool s] rfl)
  have S1 := (S0.new (below_alloc _ _) (own_bx _ 37 4 #[.slice none 0 0, .int .i64 0, .bool false, .bool false] rfl))
  simp only [List.nil_append, List.cons_append, size_alloc] at S1
  have HS1 := Lib.hid S1
  clear S0 S1
  have C0 := own_box (HS1.out.own 0 _ rfl)
  have HR := Lib.hid hr
  have HP := Lib.hid hp
  clear hr hp
  cases hg : regB ps rs a
  all_goals have HG := Lib.hid hg
  · have HK := Lib.hid (show rnB ps rs a most = false by unfold rnB; rw [hg]; rfl)
    clear hg
    go_enter Try.func16, Try.ntmps16
    go_wp2_with fail
    refine (i_AreRegisters_r HG.out (HP.out.keep HS1.out.bel) (HR.out.keep HS1.out.bel) hnp hn).mono ?_
    rintro e w2 ⟨rfl, hb2⟩
    have HS2 := Lib.hid (HS1.out.below hb2)
    clear hb2 HS1 C0
    have C1 := own_box (HS2.out.own 1 _ rfl)
    have F1 := own_free (HS2.out.own 1 _ rfl)
    have P4 := own_putAll [.slice none 0 0, .int .i64 0, .bool false, .bool false] _ _ 0 (HS2.out.own 1 _ rfl)
    have HS4 := Lib.hid (HS2.out.write 1 rfl P4.2 _ P4.1)
    clear P4 HS2
    go_wp2
    refine bodyPost_ret (v := .tuple #[regV none 0 0 0 false false, .int .i64 0, .bool false]) (by simp [results, Try.results16, go_sem, C1, F1]) rfl ?_
    unfold rnR rnN
    rw [HK.out]
    exact ⟨none, 0, rfl, own_nil0, HS4.out.bel⟩
  · cases hm : inB most 0 1000
    all_goals have HM := Lib.hid hm
    · have HK := Lib.hid (show rnB ps rs a most = false by unfold rnB; rw [hg, hm]; rfl)
      clear hg hm
      go_enter Try.func16, Try.ntmps16
      go_wp2_with fail
      refine (i_AreRegisters_r HG.out (HP.out.keep HS1.out.bel) (HR.out.keep HS1.out.bel) hnp hn).mono ?_
      rintro e w2 ⟨rfl, hb2⟩
      have HS2 := Lib.hid (HS1.out.below hb2)
      clear hb2 HS1 C0
      go_wp2_with fail
      refine (inside_eq HM.out _).mono ?_
      rintro e w3 ⟨rfl, rfl⟩
      have C1 := own_box (HS2.out.own 1 _ rfl)
      have F1 := own_free (HS2.out.own 1 _ rfl)
      have P4 := own_putAll [.slice none 0 0, .int .i64 0, .bool false, .bool false] _ _ 0 (HS2.out.own 1 _ rfl)
      have HS4 := Lib.hid (HS2.out.write 1 rfl P4.2 _ P4.1)
      clear P4 HS2
      go_wp2
      refine bodyPost_ret (v := .tuple #[regV none 0 0 0 false false, .int .i64 0, .bool false]) (by simp [results, Try.results16, go_sem, C1, F1]) rfl ?_
      unfold rnR rnN
      rw [HK.out]
      exact ⟨none, 0, rfl, own_nil0, HS4.out.bel⟩
    · have HK := Lib.hid (show rnB ps rs a most = true by unfold rnB; rw [hg, hm]; rfl)
      have hmm := inB_iff.1 hm
      obtain ⟨hm0, hm1⟩ := hmm
      obtain ⟨mo, rfl⟩ := Int.eq_ofNat_of_zero_le hm0
      have hn4 : n = 4 := by
        obtain ⟨_, _, _, _, _, _, _, _, _, _, h3, _⟩ := reg_in hg
        have := HR.out.len; omega
      subst hn4
      clear hg hm hm0
      go_enter Try.func16, Try.ntmps16
      go_wp2_with fail
      refine (i_AreRegisters_r HG.out (HP.out.keep HS1.out.bel) (HR.out.keep HS1.out.bel) hnp hn).mono ?_
      rintro e w2 ⟨rfl, hb2⟩
      have HS2 := Lib.hid (HS1.out.below hb2)
      clear hb2 HS1 C0
      have C0 := own_box (HS2.out.own 0 _ rfl)
      go_wp2_with fail
      refine (inside_eq HM.out _).mono ?_
      rintro e w3 ⟨rfl, rfl⟩
      go_wp2_with fail
      refine (newRegisters_any A 4 c rs a z s _ (HR.out.keep HS2.out.bel) (by omega)).mono ?_
      rintro e w4 ⟨A9, c9, rfl, ho4, hb4⟩
      have S4 := (HS2.out.new hb4 ho4).new (below_alloc _ _) (own_bx w4 37 4 #[.slice A9 4 c9, .int .i64 a, .bool z, .bool s] rfl)
      simp only [List.nil_append, List.cons_append] at S4
      go_wp2
      obtain ⟨g9, hg9⟩ : ∃ g9, g9 = w4.heap.size := ⟨_, rfl⟩
      rw [← hg9] at S4
      rw [← hg9]
      have HS5 : Hid (Sep w (w4.alloc (.cells #[.slice A9 4 c9, .int .i64 a, .bool z, .bool s] 37)) (rnL w A 4 c a z s g9 A9 c9 ⟨rs, a, z, s⟩)) := Lib.hid S4
      clear S4 ho4 hb4 C0 HS2 hg9
      go_loopw [10] (fun i wr => ∃ (k : Nat) (A9 : Option Addr) (c9 : Nat) (g : GS), k ≤ mo ∧ i = .int .i64 k ∧ Hid (regB ps g.rs g.a = true) ∧ Hid (runF ps (mo - k) g k = runF ps mo ⟨rs, a, z, s⟩ 0) ∧ Hid (Sep w wr (rnL w A 4 c a z s g9 A9 c9 g))) (fun i _ => mo - (intOf i).toNat)
      case atStart => exact ⟨0, A9, c9, ⟨rs, a, z, s⟩, by omega, rfl, HG, Lib.hid rfl, HS5⟩
      case round =>
        obtain ⟨k, A9, c9, ⟨gr, ga, gz, gs⟩, hk, rfl, HGk, HRun, HS⟩ := hrel
        dsimp only at HGk HRun
        clear HS5
        have C9 := own_box (HS.out.own 3 _ rfl)
        have F9 := own_free (HS.out.own 3 _ rfl)
        dsimp only at C9
        by_cases hgo : gs = false ∧ k < mo
        · obtain ⟨rfl, hlt⟩ := hgo
          have h0 : (k : Int) < (mo : Int) := by omega
          go_wp2_with fail
          refine (stepGuest_p Ap np cp ps A9 4 c9 gr ga gz false _ (HP.out.keep HS.out.bel) (HS.out.rd 2 rfl) HGk.out).mono ?_
          rintro e w7 ⟨A8, c8, rfl, ho8, hb8⟩
          have HS8 := Lib.hid (HS.out.new hb8 ho8)
          clear ho8 hb8 HS C9 F9
          have C9 := own_box (HS8.out.own 3 _ rfl)
          have F9 := own_free (HS8.out.own 3 _ rfl)
          dsimp only at C9
          have P4 := own_putAll [.slice A8 4 c8, .int .i64 (stP ps gr ga gz).a, .bool (stP ps gr ga gz).z, .bool (stP ps gr ga gz).s] _ _ 0 (HS8.out.own 3 _ rfl)
          have S9 := HS8.out.write 3 rfl P4.2 _ P4.1
          have HS10 := Lib.hid (run_drop S9)
          clear P4 S9 HS8
          go_wp2
          go_roundw
          case rel =>
            refine ⟨k + 1, A8, c8, stP ps gr ga gz, by omega, by go_num, Lib.hid (stP_good HGk.out), Lib.hid ?_, HS10⟩
            have e1 := runF_go (ps := ps) (m := mo - k) (g := ⟨gr, ga, gz, false⟩) (n := (k : Int)) rfl (by omega)
            rw [HRun.out] at e1
            have e3 : ((k + 1 : Nat) : Int) = (k : Int) + 1 := by omega
            rw [e3, show mo - (k + 1) = mo - k - 1 by omega]
            exact e1.symm
          case measure => simp [intOf]; omega
        · have hfin : runF ps mo ⟨rs, a, z, s⟩ 0 = (⟨gr, ga, gz, gs⟩, (k : Int)) := by
            rw [← HRun.out]
            cases gs with
            | true => exact runF_stop rfl
            | false =>
              have : mo - k = 0 := by have : ¬ k < mo := fun h => hgo ⟨rfl, h⟩; omega
              rw [this]; rfl
          have HF := Lib.hid hfin
          clear hfin
          have C1 := own_box (HS.out.own 1 _ rfl)
          have F1 := own_free (HS.out.own 1 _ rfl)
          have P4 := own_putAll [.slice A9 4 c9, .int .i64 ga, .bool gz, .bool gs] _ _ 0 (HS.out.own 1 _ rfl)
          have HS10 := Lib.hid (HS.out.write 1 rfl P4.2 _ P4.1)
          have HL4 := Lib.hid (show gr.length = 4 from HS.out.own 2 _ rfl |>.rd |>.len)
          clear P4 HS
          cases gs
          · have h0 : ¬ (k : Int) < (mo : Int) := by have : ¬ k < mo := fun h => hgo ⟨rfl, h⟩; omega
            clear hgo
            go_wp2
            refine bodyPost_ret (v := .tuple #[regV A9 4 c9 ga gz false, .int .i64 k, .bool true]) (by simp [results, Try.results16, go_sem, C1, F1]) rfl ?_
            unfold rnR rnN
            rw [HK.out, if_pos rfl, if_pos rfl, Int.toNat_natCast, HF.out]
            dsimp only
            rw [HL4.out]
            exact ⟨A9, c9, rfl, HS10.out.own 2 _ rfl, HS10.out.bel⟩
          · clear hgo
            have hkm : (k : Int) < (mo : Int) ∨ ¬ (k : Int) < (mo : Int) := by omega
            rcases hkm with h0 | h0
            all_goals
              go_wp2
              refine bodyPost_ret (v := .tuple #[regV A9 4 c9 ga gz true, .int .i64 k, .bool true]) (by simp [results, Try.results16, go_sem, C1, F1]) rfl ?_
              unfold rnR rnN
              rw [HK.out, if_pos rfl, if_pos rfl, Int.toNat_natCast, HF.out]
              dsimp only
              rw [HL4.out]
              exact ⟨A9, c9, rfl, HS10.out.own 2 _ rfl, HS10.out.bel⟩

set_option maxRecDepth 100000 in
set_option maxHeartbeats 8000000 in
theorem s_RunGuest_any (Ap : Option Addr) (np cp : Nat) (ps : List RInstruction) (A : Option Addr) (n c : Nat) (rs : List Int) (a : Int) (z s : Bool) (most : Int) (w : World) (hp : Rd w 4 Ap np (J cInstruction ps)) (hr : Rd w 1 A n (I rs)) (hnp : np ≤ 1048576) (hn : n ≤ 1048576) :
    Calls Try.prog 17 #[.slice Ap np cp, regV A n c a z s, .int .i64 most] w fun e w' => ∃ A' c', e = .returned (.tuple #[regV A' (rnR ps rs a z s most).rs.length c' (rnR ps rs a z s most).a (rnR ps rs a z s most).z (rnR ps rs a z s most).s, .int .i64 (rnN ps rs a z s most), .bool (rnB ps rs a most)]) ∧ Own w' w.heap.size (ti A' (rnR ps rs a z s most).rs.length c' (rnR ps rs a z s most).rs) ∧ Below w.heap.size w w' := by
  have S0 := (Sep.start w).new (below_alloc w _) (own_bx w 37 4 #[.slice A n c, .int .i64 a, .bool z, .bool s] rfl)
  have S1 := (S0.new (below_alloc _ _) (own_bx _ 37 4 #[.slice none 0 0, .int .i64 0, .bool false, .bool false] rfl))
  simp only [List.nil_append, List.cons_append, size_alloc] at S1
  have HS1 := Lib.hid S1
  clear S0 S1
  have C0 := own_box (HS1.out.own 0 _ rfl)
  have HR := Lib.hid hr
  have HP := Lib.hid hp
  clear hr hp
  cases hg : regB ps rs a
  all_goals have HG := Lib.hid hg
  · have HK := Lib.hid (show rnB ps rs a most = false by unfold rnB; rw [hg]; rfl)
    clear hg
    go_enter Try.func17, Try.ntmps17
    go_wp2_with fail
    refine (l3Good_r HG.out (HP.out.keep HS1.out.bel) (HR.out.keep HS1.out.bel) hnp hn).mono ?_
    rintro e w2 ⟨rfl, hb2⟩
    have HS2 := Lib.hid (HS1.out.below hb2)
    clear hb2 HS1 C0
    have C1 := own_box (HS2.out.own 1 _ rfl)
    have F1 := own_free (HS2.out.own 1 _ rfl)
    have P4 := own_putAll [.slice none 0 0, .int .i64 0, .bool false, .bool false] _ _ 0 (HS2.out.own 1 _ rfl)
    have HS4 := Lib.hid (HS2.out.write 1 rfl P4.2 _ P4.1)
    clear P4 HS2
    go_wp2
    refine bodyPost_ret (v := .tuple #[regV none 0 0 0 false false, .int .i64 0, .bool false]) (by simp [results, Try.results17, go_sem, C1, F1]) rfl ?_
    unfold rnR rnN
    rw [HK.out]
    exact ⟨none, 0, rfl, own_nil0, HS4.out.bel⟩
  · cases hm : inB most 0 1000
    all_goals have HM := Lib.hid hm
    · have HK := Lib.hid (show rnB ps rs a most = false by unfold rnB; rw [hg, hm]; rfl)
      clear hg hm
      go_enter Try.func17, Try.ntmps17
      go_wp2_with fail
      refine (l3Good_r HG.out (HP.out.keep HS1.out.bel) (HR.out.keep HS1.out.bel) hnp hn).mono ?_
      rintro e w2 ⟨rfl, hb2⟩
      have HS2 := Lib.hid (HS1.out.below hb2)
      clear hb2 HS1 C0
      go_wp2_with fail
      refine (l1In_eq HM.out _).mono ?_
      rintro e w3 ⟨rfl, rfl⟩
      have C1 := own_box (HS2.out.own 1 _ rfl)
      have F1 := own_free (HS2.out.own 1 _ rfl)
      have P4 := own_putAll [.slice none 0 0, .int .i64 0, .bool false, .bool false] _ _ 0 (HS2.out.own 1 _ rfl)
      have HS4 := Lib.hid (HS2.out.write 1 rfl P4.2 _ P4.1)
      clear P4 HS2
      go_wp2
      refine bodyPost_ret (v := .tuple #[regV none 0 0 0 false false, .int .i64 0, .bool false]) (by simp [results, Try.results17, go_sem, C1, F1]) rfl ?_
      unfold rnR rnN
      rw [HK.out]
      exact ⟨none, 0, rfl, own_nil0, HS4.out.bel⟩
    · have HK := Lib.hid (show rnB ps rs a most = true by unfold rnB; rw [hg, hm]; rfl)
      have hmm := inB_iff.1 hm
      obtain ⟨hm0, hm1⟩ := hmm
      obtain ⟨mo, rfl⟩ := Int.eq_ofNat_of_zero_le hm0
      have hn4 : n = 4 := by
        obtain ⟨_, _, _, _, _, _, _, _, _, _, h3, _⟩ := reg_in hg
        have := HR.out.len; omega
      subst hn4
      clear hg hm hm0
      go_enter Try.func17, Try.ntmps17
      go_wp2_with fail
      refine (l3Good_r HG.out (HP.out.keep HS1.out.bel) (HR.out.keep HS1.out.bel) hnp hn).mono ?_
      rintro e w2 ⟨rfl, hb2⟩
      have HS2 := Lib.hid (HS1.out.below hb2)
      clear hb2 HS1 C0
      have C0 := own_box (HS2.out.own 0 _ rfl)
      go_wp2_with fail
      refine (l1In_eq HM.out _).mono ?_
      rintro e w3 ⟨rfl, rfl⟩
      go_upto_region 3 with (fail)
      go_cut [9] from 21 to 30 (fun x9 wx => ∃ (g9 : Nat) (A9 : Option Addr) (c9 : Nat), x9 = .pointer (some ⟨g9, 0, none⟩) ∧ Hid (Sep w wx (rnL w A 4 c a z s g9 A9 c9 ⟨rs, a, z, s⟩)))
      case first =>
        have S1 := HS2.out.below (Below.drew (Below.refl _ _))
        have Y0 := own_lt (HS2.out.own 1 _ rfl)
        have dc0 : w2.cell? ⟨w.heap.size, 0, none⟩ = some (.slice A 4 c) := C0 0
        have dc1 : w2.cell? ⟨w.heap.size, 1, none⟩ = some (.int .i64 a) := C0 1
        have dc2 : w2.cell? ⟨w.heap.size, 2, none⟩ = some (.bool z) := C0 2
        have dc3 : w2.cell? ⟨w.heap.size, 3, none⟩ = some (.bool s) := C0 3
        have cc0 : w2.drew.cell? ⟨w.heap.size, 0, none⟩ = some (.slice A 4 c) := dc0
        have cc1 : w2.drew.cell? ⟨w.heap.size, 1, none⟩ = some (.int .i64 a) := dc1
        have cc2 : w2.drew.cell? ⟨w.heap.size, 2, none⟩ = some (.bool z) := dc2
        have cc3 : w2.drew.cell? ⟨w.heap.size, 3, none⟩ = some (.bool s) := dc3
        clear C0
        go_region_held3 (fun w' => w'.cell? ⟨w.heap.size, 0, none⟩ = some (.slice A 4 c) ∧ w'.cell? ⟨w.heap.size, 1, none⟩ = some (.int .i64 a) ∧ w'.cell? ⟨w.heap.size, 2, none⟩ = some (.bool z) ∧ w'.cell? ⟨w.heap.size, 3, none⟩ = some (.bool s))
          (first | (with_reducible exact ⟨q0, q1, q2, q3⟩) | (with_reducible exact ⟨cc0, cc1, cc2, cc3⟩) | (refine ⟨?_, ?_, ?_, ?_⟩ <;> (repeat (first | (with_reducible exact q0) | (with_reducible exact q1) | (with_reducible exact q2) | (with_reducible exact q3) | (with_reducible exact cc0) | (with_reducible exact cc1) | (with_reducible exact cc2) | (with_reducible exact cc3) | (with_reducible exact dc0) | (with_reducible exact dc1) | (with_reducible exact dc2) | (with_reducible exact dc3) | (with_reducible refine kset (by omega) ?_) | (with_reducible refine kalloc ?_) | (with_reducible refine kdrew ?_))))) (first
          | (go_at_call 43; (first | (have Sa := S1; refine (l1Own_any A 4 c rs _ (HR.out.keep Sa.bel) (by omega)).mono ?_) | (have Sa := S1.new (below_alloc _ _) (own_bx _ 37 4 #[.slice none 0 0, .int .i64 0, .bool false, .bool false] rfl); refine (l1Own_any A 4 c rs _ (HR.out.keep Sa.bel) (by omega)).mono ?_)); rintro e w4 ⟨A9, c9, rfl, ho2, hb2⟩; have S2 := Sa.new hb2 ho2; have q0 : w4.cell? ⟨w.heap.size, 0, none⟩ = some (.slice A 4 c) := own_box (S2.own 0 _ rfl) 0; have q1 : w4.cell? ⟨w.heap.size, 1, none⟩ = some (.int .i64 a) := own_box (S2.own 0 _ rfl) 1; have q2 : w4.cell? ⟨w.heap.size, 2, none⟩ = some (.bool z) := own_box (S2.own 0 _ rfl) 2; have q3 : w4.cell? ⟨w.heap.size, 3, none⟩ = some (.bool s) := own_box (S2.own 0 _ rfl) 3; have Y2 := own_lt (S2.own 1 _ rfl); (first | (have A5 := own_box (S2.own 2 _ rfl); have F5 := own_free (S2.own 2 _ rfl); have Y5 := own_lt (S2.own 2 _ rfl); (try simp only [hdrew, size_alloc] at A5 F5 Y5)) | skip)))
        all_goals simp only [hdrew, size_alloc, List.cons_append, List.nil_append] at S2
        all_goals have HS3 := Lib.hid S2
        all_goals clear S2
        all_goals
          go_wp2_with fail
          go_meet
          refine ⟨_, A9, c9, rfl, ?_⟩
          first
            | (have Sf := HS3.out.new (below_alloc _ _) (own_bx _ 37 4 #[.slice A9 4 c9, .int .i64 a, .bool z, .bool s] rfl); simp only [size_alloc, List.cons_append, List.nil_append] at Sf; with_reducible exact Lib.hid Sf)
            | (have Pf := own_putAll [.slice A9 4 c9, .int .i64 a, .bool z, .bool s] _ _ 0 (HS3.out.own 2 _ rfl); have Sf := HS3.out.write 2 rfl Pf.2 _ Pf.1; simp only [putAll, size_alloc, World.size_setCell, List.cons_append, List.nil_append, List.set_cons_succ, List.set_cons_zero, Nat.zero_add, Nat.reduceAdd] at Sf; with_reducible refine sep_castp Sf ?_; exact perm2 (List.Perm.swap _ _ _))
      case rest =>
      obtain ⟨g9, A9, c9, rfl, HS5⟩ := hcut
      clear HS2 C0
      go_wp2
      go_loopw [10] (fun i wr => ∃ (k : Nat) (A9 : Option Addr) (c9 : Nat) (g : GS), k ≤ mo ∧ i = .int .i64 k ∧ Hid (regB ps g.rs g.a = true) ∧ Hid (runF ps (mo - k) g k = runF ps mo ⟨rs, a, z, s⟩ 0) ∧ Hid (Sep w wr (rnL w A 4 c a z s g9 A9 c9 g))) (fun i _ => mo - (intOf i).toNat)
      case atStart => exact ⟨0, A9, c9, ⟨rs, a, z, s⟩, by omega, rfl, HG, Lib.hid rfl, HS5⟩
      case round =>
        obtain ⟨k, A9, c9, ⟨gr, ga, gz, gs⟩, hk, rfl, HGk, HRun, HS⟩ := hrel
        dsimp only at HGk HRun
        clear HS5
        have C9 := own_box (HS.out.own 3 _ rfl)
        have F9 := own_free (HS.out.own 3 _ rfl)
        dsimp only at C9
        by_cases hgo : gs = false ∧ k < mo
        · obtain ⟨rfl, hlt⟩ := hgo
          have h0 : (k : Int) < (mo : Int) := by omega
          go_wp2_with fail
          refine (l3Step_p Ap np cp ps A9 4 c9 gr ga gz false _ (HP.out.keep HS.out.bel) (HS.out.rd 2 rfl) HGk.out).mono ?_
          rintro e w7 ⟨A8, c8, rfl, ho8, hb8⟩
          have HS8 := Lib.hid (HS.out.new hb8 ho8)
          clear ho8 hb8 HS C9 F9
          have C9 := own_box (HS8.out.own 3 _ rfl)
          have F9 := own_free (HS8.out.own 3 _ rfl)
          dsimp only at C9
          have P4 := own_putAll [.slice A8 4 c8, .int .i64 (stP ps gr ga gz).a, .bool (stP ps gr ga gz).z, .bool (stP ps gr ga gz).s] _ _ 0 (HS8.out.own 3 _ rfl)
          have S9 := HS8.out.write 3 rfl P4.2 _ P4.1
          have HS10 := Lib.hid (run_drop S9)
          clear P4 S9 HS8
          go_wp2
          go_roundw
          case rel =>
            refine ⟨k + 1, A8, c8, stP ps gr ga gz, by omega, by go_num, Lib.hid (stP_good HGk.out), Lib.hid ?_, HS10⟩
            have e1 := runF_go (ps := ps) (m := mo - k) (g := ⟨gr, ga, gz, false⟩) (n := (k : Int)) rfl (by omega)
            rw [HRun.out] at e1
            have e3 : ((k + 1 : Nat) : Int) = (k : Int) + 1 := by omega
            rw [e3, show mo - (k + 1) = mo - k - 1 by omega]
            exact e1.symm
          case measure => simp [intOf]; omega
        · have hfin : runF ps mo ⟨rs, a, z, s⟩ 0 = (⟨gr, ga, gz, gs⟩, (k : Int)) := by
            rw [← HRun.out]
            cases gs with
            | true => exact runF_stop rfl
            | false =>
              have : mo - k = 0 := by have : ¬ k < mo := fun h => hgo ⟨rfl, h⟩; omega
              rw [this]; rfl
          have HF := Lib.hid hfin
          clear hfin
          have C1 := own_box (HS.out.own 1 _ rfl)
          have F1 := own_free (HS.out.own 1 _ rfl)
          have P4 := own_putAll [.slice A9 4 c9, .int .i64 ga, .bool gz, .bool gs] _ _ 0 (HS.out.own 1 _ rfl)
          have HS10 := Lib.hid (HS.out.write 1 rfl P4.2 _ P4.1)
          have HL4 := Lib.hid (show gr.length = 4 from HS.out.own 2 _ rfl |>.rd |>.len)
          clear P4 HS
          cases gs
          · have h0 : ¬ (k : Int) < (mo : Int) := by have : ¬ k < mo := fun h => hgo ⟨rfl, h⟩; omega
            clear hgo
            go_wp2
            refine bodyPost_ret (v := .tuple #[regV A9 4 c9 ga gz false, .int .i64 k, .bool true]) (by simp [results, Try.results17, go_sem, C1, F1]) rfl ?_
            unfold rnR rnN
            rw [HK.out, if_pos rfl, if_pos rfl, Int.toNat_natCast, HF.out]
            dsimp only
            rw [HL4.out]
            exact ⟨A9, c9, rfl, HS10.out.own 2 _ rfl, HS10.out.bel⟩
          · clear hgo
            have hkm : (k : Int) < (mo : Int) ∨ ¬ (k : Int) < (mo : Int) := by omega
            rcases hkm with h0 | h0
            all_goals
              go_wp2
              refine bodyPost_ret (v := .tuple #[regV A9 4 c9 ga gz true, .int .i64 k, .bool true]) (by simp [results, Try.results17, go_sem, C1, F1]) rfl ?_
              unfold rnR rnN
              rw [HK.out, if_pos rfl, if_pos rfl, Int.toNat_natCast, HF.out]
              dsimp only
              rw [HL4.out]
              exact ⟨A9, c9, rfl, HS10.out.own 2 _ rfl, HS10.out.bel⟩
end Go.Proofs.Ytlahpnihnpmgoaa
