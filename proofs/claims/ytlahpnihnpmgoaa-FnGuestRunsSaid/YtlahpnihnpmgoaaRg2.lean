/- Contracts of ReachedBy with the list as a letter; that there is such a list. Lengths at most 2^20. -/
import Derived.Test.YtlahpnihnpmgoaaRf
namespace Go.Proofs.Ytlahpnihnpmgoaa
open Go.RowKit
set_option linter.unusedVariables false
set_option linter.unusedSimpArgs false

theorem rch_bd {ps : List RInstruction} (h : progB ps = true) {x : Int} (hx : Rch ps x) : 0 ≤ x ∧ x < 16 := by
  have hb := prog_bd h
  have h2 : 0 ≤ x ∧ x < (ps.length : Int) := by
    induction hx with
    | zero => omega
    | step i j _ hj hl ih =>
      refine ⟨?_, hl⟩
      obtain ⟨k, rfl⟩ := Int.eq_ofNat_of_zero_le ih.1
      have hk : ps[k]? = some (ps[k]'(by omega)) := List.getElem?_eq_getElem (by omega)
      obtain ⟨h0, h3⟩ := prog_ins h hk
      rw [insA_at hk] at hj
      by_cases hz : (ps[k]'(by omega)).f0 = 0
      · rw [suc_halt hz] at hj; cases hj
      · rcases (suc_mem hz).1 hj with ⟨_, e⟩ | ⟨_, e⟩ <;> omega
  omega
theorem rl_exists (ps : List RInstruction) : ∃ o : List Int, RL (progB ps) ps o ∧ o.length ≤ 16 := by
  cases h : progB ps
  · exact ⟨[], rfl, by simp⟩
  · haveI : DecidablePred fun i : Nat => Rch ps (i : Int) := fun i => Classical.propDecidable _
    refine ⟨((List.range 16).filter fun i : Nat => decide (Rch ps (i : Int))).map fun i : Nat => (i : Int), ⟨?_, fun x => ?_⟩, ?_⟩
    · unfold Rise
      rw [List.pairwise_map]
      exact ((List.pairwise_lt_range (n := 16)).sublist List.filter_sublist).imp fun h => by omega
    · rw [List.mem_map]
      constructor
      · rintro ⟨i, hi, rfl⟩
        simpa using (List.mem_filter.1 hi).2
      · intro hx
        have hb := rch_bd h hx
        obtain ⟨k, rfl⟩ := Int.eq_ofNat_of_zero_le hb.1
        exact ⟨k, List.mem_filter.2 ⟨List.mem_range.2 (by omega), by simpa using hx⟩, rfl⟩
    · rw [List.length_map]
      exact Nat.le_trans (List.length_filter_le _ _) (by simp)
section
variable {o : List Int}
theorem s_ReachedBy_o {ps : List RInstruction} (ho : RL (progB ps) ps o) (Ap : Option Addr) (np cp : Nat) (ps' : List RInstruction) (w : World) (hr : Rd w 4 Ap np (J cInstruction ps')) (hn : np ≤ 1048576) (e0 : ps' = ps := by rfl) :
    Calls Try.prog 6 #[.slice Ap np cp] w fun e w' => ∃ A' c', e = .returned (.tuple #[.slice A' o.length c', .bool (progB ps)]) ∧ Own w' w.heap.size (ti A' o.length c' o) ∧ Below w.heap.size w w' := by
  subst e0
  refine (s_ReachedBy_any Ap np cp ps' w hr hn _ rfl).mono ?_
  rintro e w' ⟨A, c, L, o', rfl, ho', hrl, _, hb⟩
  obtain rfl := RL.unique ho hrl
  obtain rfl : o.length = L := ho'.rd.len
  exact ⟨A, c, rfl, ho', hb⟩
theorem i_ReachedBy_o {ps : List RInstruction} (ho : RL (progB ps) ps o) (Ap : Option Addr) (np cp : Nat) (ps' : List RInstruction) (w : World) (hr : Rd w 4 Ap np (J cInstruction ps')) (hn : np ≤ 1048576) (e0 : ps' = ps := by rfl) :
    Calls Try.prog 8 #[.slice Ap np cp] w fun e w' => ∃ A' c', e = .returned (.tuple #[.slice A' o.length c', .bool (progB ps)]) ∧ Own w' w.heap.size (ti A' o.length c' o) ∧ Below w.heap.size w w' := by
  subst e0
  refine (i_ReachedBy_any Ap np cp ps' w hr hn _ rfl).mono ?_
  rintro e w' ⟨A, c, L, o', rfl, ho', hrl, _, hb⟩
  obtain rfl := RL.unique ho hrl
  obtain rfl : o.length = L := ho'.rd.len
  exact ⟨A, c, rfl, ho', hb⟩
end
end Go.Proofs.Ytlahpnihnpmgoaa
