/- Contracts of the small functions on lists of ints: toIntS, eqIntS, markIntS, heldIntS, l1Own, copyInts. Lengths at most 2^20 where memory is made. -/
import Derived.Test.YtaaocnfbbajphaaRows
import Derived.Test.YtaaocnfbbajphaaMem
namespace Go.Proofs.Ytaaocnfbbajphaa
open Go.RowKit
set_option linter.unusedVariables false
set_option linter.unusedSimpArgs false

theorem Try.info3 : (Try.prog.info? 3).map (fun i => (i.zero, i.size, i.bytes)) = some (some (.int .i64 0), 1, 8) := by kernel_rfl

theorem madeCells_int (n : Nat) : (madeCells (Value.int .i64 0).cells (n * 1)).toList = I (List.replicate n 0) := by
  show (madeCells #[Value.int .i64 0] (n * 1)).toList = _
  rw [toList_madeCells_one, Nat.mul_one]; simp [I]

theorem set_fill (xs : List Int) (k : Nat) (x : Int) (h : k < xs.length) (hx : xs[k]? = some x) :
    (xs.take k ++ List.replicate (xs.length - k) 0).set k x = xs.take (k + 1) ++ List.replicate (xs.length - (k + 1)) 0 := by
  apply List.ext_getElem?
  intro j
  rw [List.getElem?_set]
  have hl : (xs.take k).length = k := by simp; omega
  have hl1 : (xs.take (k + 1)).length = k + 1 := by simp; omega
  simp only [List.getElem?_append, hl, hl1, List.length_append, List.length_replicate, List.getElem?_take, List.getElem?_replicate]
  by_cases h1 : k = j
  · subst h1
    have h3 : k < k + 1 := by omega
    have h4 : k < min k xs.length + (xs.length - k) := by omega
    simp [hx, h3, h4]
    omega
  · by_cases h2 : j < k
    · simp [h1, h2, Nat.lt_succ_of_lt h2]
    · have h3 : ¬ j < k + 1 := by omega
      simp only [h1, h2, h3, if_false]
      by_cases h4 : j - k < xs.length - k
      · rw [if_pos h4, if_pos (by omega)]
      · rw [if_neg h4, if_neg (by omega)]


abbrev ti (A : Option Addr) (n c : Nat) (xs : List Int) : Thing := ⟨3, 1, A, n, c, I xs⟩

theorem Rd.at_ {w : World} {A : Option Addr} {n k : Nat} {xs : List Int} (h : Rd w 1 A n (I xs)) (hk : k < n) :
    ∃ b o x, A = some ⟨b, o, none⟩ ∧ b < w.heap.size ∧ Hid (xs[k]? = some x) ∧ w.cell? ⟨b, o + k, none⟩ = some (.int .i64 x) := by
  obtain ⟨b, o, hA, hb, hc⟩ := h.2 (by omega)
  have hl : xs.length = n := by have := h.1; rw [I_length] at this; omega
  have hx : xs[k]? = some (xs[k]'(by omega)) := List.getElem?_eq_getElem (by omega)
  exact ⟨b, o, _, hA, hb, hx, hc k _ (by simp [I, hx])⟩
theorem take_snoc {l : List Int} {k : Nat} {x : Int} (h : l[k]? = some x) : l.take (k + 1) = l.take k ++ [x] := by
  rw [List.take_add_one, h]; rfl
theorem Rd.len {w : World} {A : Option Addr} {n : Nat} {xs : List Int} (h : Rd w 1 A n (I xs)) : xs.length = n := by have := h.1; rw [I_length] at this; omega

/-- k, k+1, .. : n numbers -/
def marks (k : Int) (n : Nat) : List Int := (List.range n).map fun i : Nat => k + (i : Int)
theorem marks_length (k : Int) (n : Nat) : (marks k n).length = n := by simp [marks]
theorem marks_get {k : Int} {n i : Nat} (h : i < n) : (marks k n)[i]? = some (k + (i : Int)) := by simp [marks, h]
theorem marks_take_set (k : Int) (xs : List Int) (i : Nat) (h : i < xs.length) :
    ((marks k xs.length).take i ++ xs.drop i).set i (k + (i : Int)) = (marks k xs.length).take (i + 1) ++ xs.drop (i + 1) := by
  have hl : ((marks k xs.length).take i).length = i := by simp [marks_length]; omega
  rw [List.set_append, if_neg (by omega), hl, Nat.sub_self, List.drop_eq_getElem_cons h, List.set_cons_zero, take_snoc (marks_get h), List.append_assoc]
  rfl

theorem I_one (l : List Int) : ∀ u ∈ I l, u.oneCell' = true := by
  intro u hu
  obtain ⟨x, _, rfl⟩ := List.mem_map.1 hu
  rfl

set_option maxHeartbeats 1000000 in
theorem copyInts_any (A : Option Addr) (n c : Nat) (xs : List Int) (w : World) (hr : Rd w 1 A n (I xs)) (hn : n ≤ 1048576) :
    Calls Try.prog 85 #[.slice A n c] w fun e w' => ∃ A' c', e = .returned (.slice A' n c') ∧ Own w' w.heap.size (ti A' n c' xs) ∧ Below w.heap.size w w' := by
  obtain ⟨i0, hi, hz0, hz1, hz2⟩ := info_parts Try.info3
  go_enter Try.func85, Try.ntmps85
  go_wp2_with (at_builtin; refine wpList_app _ rfl _ _ 24 rfl w.heap.size 3 i0 (.int .i64 0) 1 8 Try.underlying24 hi hz0 hz1 hz2 rfl (by decide) _ _ _ _ rfl (World.ownsRow_made w #[] 0 (Nat.le_refl _) (Nat.zero_le _) rfl) _ _ _ _ rfl (hr.keep (below_alloc w _)) (I_one xs) (by unfold maxLen; omega) (by omega) (by simp) ?_; intro A' c' w1 hown hgrow hat)
  go_ret
  have hb := below_app (below_alloc w _) (by simp) (World.ownsRow_made (size := 1) w #[] 0 (Nat.le_refl _) (Nat.zero_le _) rfl) hgrow
  rw [List.nil_append, Nat.zero_add] at hown
  exact ⟨A', c', by simp, hown, hb⟩

set_option maxHeartbeats 1000000 in
theorem l1Own_any (A : Option Addr) (n c : Nat) (xs : List Int) (w : World) (hr : Rd w 1 A n (I xs)) (hn : n ≤ 1048576) :
    Calls Try.prog 89 #[.slice A n c] w fun e w' => ∃ A' c', e = .returned (.slice A' n c') ∧ Own w' w.heap.size (ti A' n c' xs) ∧ Below w.heap.size w w' := by
  obtain ⟨i0, hi, hz0, hz1, hz2⟩ := info_parts Try.info3
  go_enter Try.func89, Try.ntmps89
  go_wp2_with (at_builtin; refine wpList_app _ rfl _ _ 24 rfl w.heap.size 3 i0 (.int .i64 0) 1 8 Try.underlying24 hi hz0 hz1 hz2 rfl (by decide) _ _ _ _ rfl (World.ownsRow_made w #[] 0 (Nat.le_refl _) (Nat.zero_le _) rfl) _ _ _ _ rfl (hr.keep (below_alloc w _)) (I_one xs) (by unfold maxLen; omega) (by omega) (by simp) ?_; intro A' c' w1 hown hgrow hat)
  go_ret
  have hb := below_app (below_alloc w _) (by simp) (World.ownsRow_made (size := 1) w #[] 0 (Nat.le_refl _) (Nat.zero_le _) rfl) hgrow
  rw [List.nil_append, Nat.zero_add] at hown
  exact ⟨A', c', by simp, hown, hb⟩

end Go.Proofs.Ytaaocnfbbajphaa
