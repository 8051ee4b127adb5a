/- Contracts of the small functions on tables: szEntrySS, szTable, toEntrySS, toTable, eqEntrySS, eqTable, markEntrySS, markTable, heldEntrySS, heldTable. Lengths at most 2^20 where memory is made. -/
import Derived.Test.YtaaocnfbbajphaaTs
import Derived.Test.YtaaocnfbbajphaaMkEntry
import Derived.Deep.RegionWith
namespace Go.Proofs.Ytaaocnfbbajphaa
open Go.RowKit
set_option linter.unusedVariables false
set_option linter.unusedSimpArgs false

/-- what is left of v behind n, or -1 -/
def lessBy (v : Int) (n : Nat) : Int := if (n : Int) ≤ v then v - (n : Int) else -1
theorem lessBy_le {v : Int} {n : Nat} (h : (n : Int) ≤ v) : lessBy v n = v - (n : Int) := if_pos h
theorem lessBy_no {v : Int} {n : Nat} (h : ¬ (n : Int) ≤ v) : lessBy v n = -1 := if_neg h
/-- what is left behind the leaves, or -1 -/
def lessLs (v : Int) : List Leaf → Int
  | [] => v
  | l :: ls => if lessBy v l.es.length < 0 then -1 else lessLs (lessBy v l.es.length) ls
theorem lessLs_snoc : ∀ (v : Int) (ls : List Leaf) (l : Leaf), -1 ≤ v → lessLs v (ls ++ [l]) = if lessLs v ls < 0 then lessLs v ls else lessBy (lessLs v ls) l.es.length
  | v, [], l, h => by
    show (if lessBy v l.es.length < 0 then -1 else lessBy v l.es.length) = if v < 0 then v else lessBy v l.es.length
    by_cases h1 : (l.es.length : Int) ≤ v
    · rw [lessBy_le h1, if_neg (by omega), if_neg (by omega)]
    · rw [lessBy_no h1, if_pos (by omega)]
      by_cases h2 : v < 0
      · rw [if_pos h2]; omega
      · rw [if_neg h2]
  | v, x :: ls, l, h => by
    simp only [List.cons_append, lessLs]
    split
    · rfl
    · exact lessLs_snoc _ ls l (by omega)
theorem lessBy_bd {v : Int} {n : Nat} (h1 : v ≤ 1048576) : lessBy v n ≤ 1048576 ∧ -1 ≤ lessBy v n := by unfold lessBy; split <;> omega
theorem lessLs_neg : ∀ (v : Int) (ls ms : List Leaf), -1 ≤ v → lessLs v ls < 0 → lessLs v (ls ++ ms) = lessLs v ls
  | v, ls, [], _, h => by simp
  | v, ls, m :: ms, hv, h => by
    have e : ls ++ m :: ms = (ls ++ [m]) ++ ms := by simp
    have h1 : lessLs v (ls ++ [m]) = lessLs v ls := by rw [lessLs_snoc _ _ _ hv, if_pos h]
    rw [e, lessLs_neg v (ls ++ [m]) ms hv (by rw [h1]; exact h), h1]
theorem lessLs_lo : ∀ {v : Int} {ls : List Leaf}, -1 ≤ v → -1 ≤ lessLs v ls
  | v, [], h => h
  | v, x :: ls, h => by
    simp only [lessLs]
    split
    · omega
    · exact lessLs_lo (by omega)
/-- what is left behind a table, or -1 -/
def lessT (v : Int) (T : Tab) : Int := if lessBy v T.D.length < 0 then -1 else if lessBy (lessBy v T.D.length) T.L.length < 0 then -1 else lessLs (lessBy (lessBy v T.D.length) T.L.length) T.L
theorem lessLs_ok : ∀ (v : Int) (ls : List Leaf), 0 ≤ lessLs v ls → v ≤ 1048576 → ∀ l ∈ ls, l.es.length ≤ 1048576
  | v, [], _, _, l, hl => by cases hl
  | v, x :: ls, h, hv, l, hl => by
    simp only [lessLs] at h
    split at h
    · omega
    · rename_i hx
      rcases List.mem_cons.1 hl with rfl | h1
      · unfold lessBy at hx; split at hx <;> omega
      · exact lessLs_ok _ ls h (lessBy_bd hv).1 l h1
theorem lessLs_sum : ∀ (v : Int) (ls : List Leaf), 0 ≤ lessLs v ls → 0 ≤ v → (((ls.map fun l => l.es.length).sum : Nat) : Int) ≤ v
  | v, [], _, h => by simpa using h
  | v, x :: ls, h, hv => by
    simp only [lessLs] at h
    split at h
    · omega
    · rename_i hx
      have := lessLs_sum _ ls h (by omega)
      unfold lessBy at hx this
      simp only [List.map_cons, List.sum_cons]
      split at hx
      · rw [if_pos ‹_›] at this; omega
      · omega
theorem lessT_ok {T : Tab} (h : 0 ≤ lessT 1048576 T) : T.D.length ≤ 1048576 ∧ T.L.length ≤ 1048576 ∧ (∀ l ∈ T.L, l.es.length ≤ 1048576) ∧ (T.L.map fun l => l.es.length).sum ≤ 1048576 := by
  unfold lessT at h
  split at h
  · omega
  · split at h
    · omega
    · rename_i h1 h2
      have h3 : T.D.length ≤ 1048576 := by unfold lessBy at h1; split at h1 <;> omega
      have h4 : lessBy 1048576 T.D.length ≤ 1048576 := (lessBy_bd (by omega)).1
      have h5 : (T.L.length : Int) ≤ lessBy 1048576 T.D.length := by
        have h2' := h2
        generalize lessBy 1048576 T.D.length = q at *
        unfold lessBy at h2'; split at h2' <;> omega
      have h6 : lessBy (lessBy 1048576 T.D.length) T.L.length ≤ 1048576 := (lessBy_bd h4).1
      refine ⟨h3, by omega, lessLs_ok _ _ h h6, ?_⟩
      have := lessLs_sum _ _ h (by omega)
      omega

end Go.Proofs.Ytaaocnfbbajphaa
