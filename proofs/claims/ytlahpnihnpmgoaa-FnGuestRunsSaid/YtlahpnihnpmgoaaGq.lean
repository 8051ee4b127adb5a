/- Contracts for the law of guests' runs: rHas, rRegisters; RunGuest, StepGuest, ReachedBy with their results as letters; a run is steps one behind the other. Lengths at most 2^20. -/
import Derived.Test.YtlahpnihnpmgoaaRi
import Derived.Test.YtlahpnihnpmgoaaRn
import Derived.Test.YtlahpnihnpmgoaaRg2
namespace Go.Proofs.Ytlahpnihnpmgoaa
open Go.RowKit
set_option linter.unusedVariables false
set_option linter.unusedSimpArgs false

/-- steps one behind the other -/
def itF (ps : List RInstruction) : Nat → GS → GS
  | 0, g => g
  | k + 1, g => stP ps (itF ps k g).rs (itF ps k g).a (itF ps k g).z
theorem itF_succ (ps : List RInstruction) (g : GS) : ∀ k, itF ps (k + 1) g = itF ps k (stP ps g.rs g.a g.z)
  | 0 => rfl
  | k + 1 => by rw [itF, itF_succ ps g k, ← itF]
theorem runF_it (ps : List RInstruction) : ∀ (m : Nat) (g : GS) (n : Int), ∃ t : Nat, t ≤ m ∧ runF ps m g n = (itF ps t g, n + t) ∧ (∀ k, k < t → (itF ps k g).s = false) ∧ (t < m → (itF ps t g).s = true)
  | 0, g, n => ⟨0, Nat.le_refl _, by rw [runF]; simp [itF], fun k hk => absurd hk (Nat.not_lt_zero _), fun h => absurd h (Nat.not_lt_zero _)⟩
  | m + 1, g, n => by
    cases hs : g.s
    · obtain ⟨t, h1, h2, h3, h4⟩ := runF_it ps m (stP ps g.rs g.a g.z) (n + 1)
      refine ⟨t + 1, by omega, ?_, ?_, ?_⟩
      · rw [runF, if_neg (by simp [hs]), h2, itF_succ]
        simp only [Prod.mk.injEq, true_and]
        omega
      · intro k hk
        cases k with
        | zero => exact hs
        | succ k => rw [itF_succ]; exact h3 k (by omega)
      · intro h
        rw [itF_succ]
        exact h4 (by omega)
    · exact ⟨0, Nat.zero_le _, by rw [runF, if_pos hs]; simp [itF], fun k hk => absurd hk (Nat.not_lt_zero _), fun _ => hs⟩
theorem itF_good {ps : List RInstruction} {g : GS} (h : regB ps g.rs g.a = true) : ∀ k, regB ps (itF ps k g).rs (itF ps k g).a = true
  | 0 => h
  | k + 1 => by rw [itF]; exact stP_good (itF_good h k)
theorem stP_rch {ps : List RInstruction} {rs : List Int} {a : Int} {z : Bool} (hR : regB ps rs a = true) (h : Rch ps a) : Rch ps (stP ps rs a z).a := by
  obtain ⟨j, o, q, ja, jb, xa, xb, rfl, h1, h2, h3, h4, h5, h6, h7, h8, h9, h10, h11, h12, h13, h14, h15, h16, h17⟩ := reg_in hR
  rw [stP_at h4]
  unfold stG
  dsimp only
  split
  · exact h
  · rename_i he
    unfold enB at he
    simp only [Bool.or_eq_true, decide_eq_true_eq, not_or, beq_iff_eq] at he
    refine .step j _ h ?_ (by omega)
    rw [insA_at h4, suc_mem he.1]
    unfold nxI
    dsimp only
    by_cases e7 : o = 7
    · right; simp [e7]
    · by_cases e8 : o = 8
      · cases z
        · left; simp [e7]
        · right; simp [e8]
      · left; simp [e7, e8]
theorem itF_rch {ps : List RInstruction} {g : GS} (h : regB ps g.rs g.a = true) (h0 : Rch ps g.a) : ∀ k, Rch ps (itF ps k g).a
  | 0 => h0
  | k + 1 => by rw [itF]; exact stP_rch (itF_good h k) (itF_rch h h0 k)
theorem regB_prog {ps : List RInstruction} {rs : List Int} {a : Int} (h : regB ps rs a = true) : progB ps = true := by
  unfold regB at h
  rw [Bool.and_eq_true] at h
  exact h.1
theorem regB_zero {ps : List RInstruction} {rs : List Int} {a : Int} (h : regB ps rs a = true) : regB ps rs 0 = true := by
  obtain ⟨j, o, q, ja, jb, xa, xb, rfl, h1, _⟩ := reg_in h
  unfold regB at h ⊢
  simp only [Bool.and_eq_true, decide_eq_true_eq, inB_iff] at h ⊢
  exact ⟨h.1, h.2.1, h.2.2.1, by omega⟩
/-- what a run leaves, where there is one -/
theorem run_told {ps : List RInstruction} {rs : List Int} {a m : Int} {z s : Bool} (h : rnB ps rs a m = true) :
    ∃ t : Nat, (t : Int) ≤ m ∧ rnN ps rs a z s m = t ∧ rnR ps rs a z s m = itF ps t ⟨rs, a, z, s⟩ ∧ (∀ k, k < t → (itF ps k ⟨rs, a, z, s⟩).s = false) ∧ ((t : Int) < m → (itF ps t ⟨rs, a, z, s⟩).s = true) ∧ regB ps rs a = true := by
  have hR := h
  unfold rnB at hR
  rw [Bool.and_eq_true, inB_iff] at hR
  obtain ⟨t, h1, h2, h3, h4⟩ := runF_it ps m.toNat ⟨rs, a, z, s⟩ 0
  refine ⟨t, by omega, ?_, ?_, h3, fun h => h4 (by omega), hR.1⟩
  · unfold rnN; rw [if_pos h, h2]; simp
  · unfold rnR; rw [if_pos h, h2]
theorem rnR_no {ps : List RInstruction} {rs : List Int} {a m : Int} {z s : Bool} (h : rnB ps rs a m = false) : rnR ps rs a z s m = ⟨[], 0, false, false⟩ := by
  unfold rnR; rw [if_neg (by simp [h])]

section
variable {ps : List RInstruction} {rs rg : List Int} {a m N ga : Int} {z s b gz gs : Bool} {L : Nat}
theorem i_RunGuest_b (hb : rnB ps rs a m = b) (hN : rnN ps rs a z s m = N) (hR : rnR ps rs a z s m = ⟨rg, ga, gz, gs⟩) (hL : rg.length = L) (Ap : Option Addr) (np cp : Nat) (A : Option Addr) (n c : Nat) (w : World) (hp : Rd w 4 Ap np (J cInstruction ps)) (hr : Rd w 1 A n (I rs)) (hnp : np ≤ 1048576) (hn : n ≤ 1048576) :
    Calls Try.prog 16 #[.slice Ap np cp, regV A n c a z s, .int .i64 m] w fun e w' => ∃ A' c', e = .returned (.tuple #[regV A' L c' ga gz gs, .int .i64 N, .bool b]) ∧ Own w' w.heap.size (ti A' L c' rg) ∧ Below w.heap.size w w' := by
  have h := i_RunGuest_any Ap np cp ps A n c rs a z s m w hp hr hnp hn
  rw [hR, hb, hN] at h
  subst hL
  exact h
theorem s_RunGuest_b (hb : rnB ps rs a m = b) (hN : rnN ps rs a z s m = N) (hR : rnR ps rs a z s m = ⟨rg, ga, gz, gs⟩) (hL : rg.length = L) (Ap : Option Addr) (np cp : Nat) (A : Option Addr) (n c : Nat) (w : World) (hp : Rd w 4 Ap np (J cInstruction ps)) (hr : Rd w 1 A n (I rs)) (hnp : np ≤ 1048576) (hn : n ≤ 1048576) :
    Calls Try.prog 17 #[.slice Ap np cp, regV A n c a z s, .int .i64 m] w fun e w' => ∃ A' c', e = .returned (.tuple #[regV A' L c' ga gz gs, .int .i64 N, .bool b]) ∧ Own w' w.heap.size (ti A' L c' rg) ∧ Below w.heap.size w w' := by
  have h := s_RunGuest_any Ap np cp ps A n c rs a z s m w hp hr hnp hn
  rw [hR, hb, hN] at h
  subst hL
  exact h
theorem i_StepGuest_b (hb : (regB ps rs a && !s) = b) (hR : stR ps rs a z s = ⟨rg, ga, gz, gs⟩) (hL : rg.length = L) (Ap : Option Addr) (np cp : Nat) (A : Option Addr) (n c : Nat) (w : World) (hp : Rd w 4 Ap np (J cInstruction ps)) (hr : Rd w 1 A n (I rs)) (hnp : np ≤ 1048576) (hn : n ≤ 1048576) :
    Calls Try.prog 19 #[.slice Ap np cp, regV A n c a z s] w fun e w' => ∃ A' c', e = .returned (.tuple #[regV A' L c' ga gz gs, .bool b]) ∧ Own w' w.heap.size (ti A' L c' rg) ∧ Below w.heap.size w w' := by
  have h := i_StepGuest_any Ap np cp ps A n c rs a z s w hp hr hnp hn
  rw [hR, hb] at h
  subst hL
  exact h
theorem s_StepGuest_b (hb : (regB ps rs a && !s) = b) (hR : stR ps rs a z s = ⟨rg, ga, gz, gs⟩) (hL : rg.length = L) (Ap : Option Addr) (np cp : Nat) (A : Option Addr) (n c : Nat) (w : World) (hp : Rd w 4 Ap np (J cInstruction ps)) (hr : Rd w 1 A n (I rs)) (hnp : np ≤ 1048576) (hn : n ≤ 1048576) :
    Calls Try.prog 23 #[.slice Ap np cp, regV A n c a z s] w fun e w' => ∃ A' c', e = .returned (.tuple #[regV A' L c' ga gz gs, .bool b]) ∧ Own w' w.heap.size (ti A' L c' rg) ∧ Below w.heap.size w w' := by
  have h := s_StepGuest_any Ap np cp ps A n c rs a z s w hp hr hnp hn
  rw [hR, hb] at h
  subst hL
  exact h
variable {o : List Int}
theorem i_ReachedBy_b (hb : progB ps = b) (ho : RL b ps o) (hL : o.length = L) (Ap : Option Addr) (np cp : Nat) (w : World) (hr : Rd w 4 Ap np (J cInstruction ps)) (hn : np ≤ 1048576) :
    Calls Try.prog 8 #[.slice Ap np cp] w fun e w' => ∃ A' c', e = .returned (.tuple #[.slice A' L c', .bool b]) ∧ Own w' w.heap.size (ti A' L c' o) ∧ Below w.heap.size w w' := by
  subst hb hL
  exact i_ReachedBy_o ho Ap np cp ps w hr hn
theorem s_ReachedBy_b (hb : progB ps = b) (ho : RL b ps o) (hL : o.length = L) (Ap : Option Addr) (np cp : Nat) (w : World) (hr : Rd w 4 Ap np (J cInstruction ps)) (hn : np ≤ 1048576) :
    Calls Try.prog 6 #[.slice Ap np cp] w fun e w' => ∃ A' c', e = .returned (.tuple #[.slice A' L c', .bool b]) ∧ Own w' w.heap.size (ti A' L c' o) ∧ Below w.heap.size w w' := by
  subst hb hL
  exact s_ReachedBy_o ho Ap np cp ps w hr hn
end
set_option maxHeartbeats 1000000 in
theorem rHas_eq (A : Option Addr) (n c : Nat) (xs : List Int) (x : Int) (w : World) (hr : Rd w 1 A n (I xs)) (hn : n ≤ 1048576) (r : Bool) (hR : decide (x ∈ xs) = r) :
    Calls Try.prog 21 #[.slice A n c, .int .i64 x] w fun e w' => e = .returned (.bool r) ∧ w = w' := by
  have hl := hr.len
  have HR := Lib.hid hR
  clear hR
  go_enter Try.func21, Try.ntmps21
  go_wp2
  go_loopw [5] (fun i wr => ∃ k : Nat, k ≤ n ∧ i = .int .i64 k ∧ Hid (¬ x ∈ xs.take k) ∧ w = wr) (fun i _ => n - (intOf i).toNat)
  case atStart => exact ⟨0, Nat.zero_le _, rfl, Lib.hid (by simp), rfl⟩
  case round =>
    obtain ⟨k, hk, rfl, HT, rfl⟩ := hrel
    by_cases hlt : k < n
    · obtain ⟨b, o, y, rfl, hbl, hyk, hc⟩ := hr.at_ hlt
      have h0 : (0 : Int) ≤ (k : Int) := by omega
      have h1 : (k : Int) < (n : Int) := by omega
      by_cases hxy : y = x
      · subst hxy
        go_wp2
        go_ret
        exact ⟨ret_bool (by rw [← HR.out]; simp [List.mem_of_getElem? hyk.out]), by first | rfl | trivial⟩
      · have hne : (y == x) = false := by simp [hxy]
        have HT2 := Lib.hid (show ¬ x ∈ xs.take (k + 1) by
          rw [take_snoc hyk.out, List.mem_append, List.mem_singleton]
          exact fun e => e.elim HT.out (fun e => hxy e.symm))
        clear hxy
        go_wp2
        go_roundw
        case rel => exact ⟨k + 1, by omega, by go_num, HT2, by first | rfl | trivial⟩
        case measure => simp [intOf]; omega
    · go_wp2
      go_ret
      refine ⟨ret_bool ?_, by first | rfl | trivial⟩
      have := HT.out
      rw [List.take_of_length_le (by omega)] at this
      rw [← HR.out]
      simp [this]
set_option maxHeartbeats 1000000 in
theorem rRegisters_same (A A' : Option Addr) (L c c' : Nat) (rg : List Int) (a : Int) (z s : Bool) (w : World) (hr : Rd w 1 A L (I rg)) (hr' : Rd w 1 A' L (I rg)) (hn : L ≤ 1048576) :
    Calls Try.prog 18 #[regV A L c a z s, regV A' L c' a z s] w fun e w' => e = .returned (.bool true) ∧ Below w.heap.size w w' := by
  obtain ⟨w1, hw1⟩ : ∃ w1, w1 = (w.alloc (.cells #[.slice A L c, .int .i64 a, .bool z, .bool s] 37)).alloc (.cells #[.slice A' L c', .int .i64 a, .bool z, .bool s] 37) := ⟨_, rfl⟩
  obtain ⟨g, hg⟩ : ∃ g, g = w.heap.size := ⟨_, rfl⟩
  have HB := Lib.hid (show Below w.heap.size w w1 by rw [hw1]; exact below_next (below_alloc w _) (below_alloc _ _))
  have HX := Lib.hid (show Box w1 g 37 #[.slice A L c, .int .i64 a, .bool z, .bool s] by rw [hw1, hg]; exact (Box.new w _ _).alloc _)
  have HY := Lib.hid (show Box w1 (g + 1) 37 #[.slice A' L c', .int .i64 a, .bool z, .bool s] by rw [hw1, hg]; exact Box.new1 w _ _ _)
  have R1 := Lib.hid (hr.keep HB.out)
  have R2 := Lib.hid (hr'.keep HB.out)
  clear hr hr'
  go_enter Try.func18, Try.ntmps18
  go_upto_region 1 with (fail)
  rw [← hw1, ← hg]
  clear hw1 hg
  have C := HX.out.cell
  have D := HY.out.cell
  go_wp2_with fail
  refine (rInts_same A A' L c c' rg _ R1.out R2.out hn).mono ?_
  rintro e w2 ⟨rfl, hb2⟩
  have HX2 := HX.out.keep hb2
  have HY2 := HY.out.keep hb2
  have HB2 := Lib.hid (below_next HB.out hb2)
  clear C D HX HY hb2 R1 R2
  have C := HX2.cell
  have D := HY2.cell
  clear HX2 HY2
  go_wp2
  go_ret
  exact ⟨rfl, HB2.out⟩
end Go.Proofs.Ytlahpnihnpmgoaa
