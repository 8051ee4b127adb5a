/- Contracts of the functions on traps in the form that the laws of traps ask; that the causes of traps add up. No conditions. -/
import Derived.Test.YtcdocgmikpccoaaLtr
import Derived.Test.YtcdocgmikpccoaaCc
namespace Go.Proofs.Ytcdocgmikpccoaa
open Go.RowKit
set_option linter.unusedVariables false
set_option linter.unusedSimpArgs false

section
variable {c wi : Int} {s : Bool} {r i : Int} {b : Bool} {q : Int}
theorem i_Syndrome_b (h : trapB c wi s r i = b) (hq : selI b (numI c wi s r i) = q) (w : World) :
    Calls Try.prog 33 #[trapV c wi s r i] w fun e w' => e = .returned (.tuple #[.int .i64 q, .bool b]) ∧ Below w.heap.size w w' := by subst h; subst hq; exact i_Syndrome_any c wi s r i w
theorem s_Syndrome_b (h : trapB c wi s r i = b) (hq : selI b (numI c wi s r i) = q) (w : World) :
    Calls Try.prog 34 #[trapV c wi s r i] w fun e w' => e = .returned (.tuple #[.int .i64 q, .bool b]) ∧ Below w.heap.size w w' := by subst h; subst hq; exact s_Syndrome_any c wi s r i w
/-- the trap out of its syndrome -/
theorem i_TrapOf_b (h : trapB c wi s r i = b) (hq : selI b (numI c wi s r i) = q) (w : World) :
    Calls Try.prog 35 #[.int .i64 q] w fun e w' => e = .returned (.tuple #[trapV (selI b c) (selI b wi) (selB b s) (selI b r) (selI b i), .bool b]) ∧ Below w.heap.size w w' := by
  have h1 := i_TrapOf_any q w
  cases b
  · obtain rfl : q = 0 := hq.symm
    have e1 : ofB 0 = false := by decide
    unfold trapN trapS at h1
    rw [e1] at h1
    exact h1
  · obtain rfl : q = numI c wi s r i := hq.symm
    rw [ofB_num h, trapN_num h] at h1
    exact h1
/-- a number's trap -/
theorem trap_of (n : Int) : ∃ (c wi : Int) (s : Bool) (r i : Int), trapN n = trapV c wi s r i ∧ (ofB n = true → trapB c wi s r i = true ∧ numI c wi s r i = n) := by
  refine ⟨_, _, _, _, _, rfl, fun h => ?_⟩
  rw [h]
  exact ⟨h, num_of h⟩
theorem i_TrapOf_t {n : Int} (h : trapN n = trapV c wi s r i) (hb : ofB n = b) (w : World) :
    Calls Try.prog 35 #[.int .i64 n] w fun e w' => e = .returned (.tuple #[trapV c wi s r i, .bool b]) ∧ Below w.heap.size w w' := by have := i_TrapOf_any n w; rw [h, hb] at this; exact this
theorem s_TrapOf_t {n : Int} (h : trapN n = trapV c wi s r i) (hb : ofB n = b) (w : World) :
    Calls Try.prog 37 #[.int .i64 n] w fun e w' => e = .returned (.tuple #[trapV c wi s r i, .bool b]) ∧ Below w.heap.size w w' := by have := s_TrapOf_any n w; rw [h, hb] at this; exact this
theorem i_DoesRepeat_b (h : trapB c wi s r i = b) {d : Bool} (hd : (b && c == 1) = d) (w : World) :
    Calls Try.prog 38 #[trapV c wi s r i] w fun e w' => e = .returned (.tuple #[.bool d, .bool b]) ∧ Below w.heap.size w w' := by subst h; subst hd; exact i_DoesRepeat_any c wi s r i w
theorem s_DoesRepeat_b (h : trapB c wi s r i = b) {d : Bool} (hd : (b && c == 1) = d) (w : World) :
    Calls Try.prog 39 #[trapV c wi s r i] w fun e w' => e = .returned (.tuple #[.bool d, .bool b]) ∧ Below w.heap.size w w' := by subst h; subst hd; exact s_DoesRepeat_any c wi s r i w
theorem i_TrapName_b (h : trapB c wi s r i = b) {t : ByteArray} (ht : selS b (nameB c s) = t) (w : World) :
    Calls Try.prog 40 #[trapV c wi s r i] w fun e w' => e = .returned (.tuple #[.string t, .bool b]) ∧ Below w.heap.size w w' := by subst h; subst ht; exact i_TrapName_any c wi s r i w
theorem s_TrapName_b (h : trapB c wi s r i = b) {t : ByteArray} (ht : selS b (nameB c s) = t) (w : World) :
    Calls Try.prog 41 #[trapV c wi s r i] w fun e w' => e = .returned (.tuple #[.string t, .bool b]) ∧ Below w.heap.size w w' := by subst h; subst ht; exact s_TrapName_any c wi s r i w
end

theorem set_sum : ∀ (l : List Int) (k : Nat) (x : Int), l[k]? = some x → (l.set k (x + 1)).sum = l.sum + 1
  | [], k, x, h => by simp at h
  | y :: l, 0, x, h => by
    simp at h; subst h
    simp only [List.set_cons_zero, List.sum_cons]; omega
  | y :: l, k + 1, x, h => by
    simp only [List.set_cons_succ, List.sum_cons]
    rw [set_sum l k x (by simpa using h)]; omega
theorem tOk_cause {x : RTrap} (h : tOk x = true) : 1 ≤ x.f0 ∧ x.f0 ≤ 5 := (trap_bd (show trapB _ _ _ _ _ = true from h)).1
theorem cnF_sum (xs : List RTrap) (h : xs.any (fun x => !tOk x) = false) : ∀ k, k ≤ xs.length → (cnF (xs.take k)).sum = (k : Int)
  | 0, _ => by simp [cnF]
  | k + 1, hk => by
    have hx : xs[k]? = some xs[k] := List.getElem?_eq_getElem (by omega)
    rw [cnF_at hx]
    have h1 := cnF_sum xs h k (by omega)
    have h2 := (cnF_inv xs k (by omega)).1
    have ht : tOk xs[k] = true := by
      have := List.any_eq_false.1 h xs[k] (List.getElem_mem (by omega))
      simpa using this
    have h3 := tOk_cause ht
    have h4 : (xs[k].f0 - 1).toNat < (cnF (xs.take k)).length := by rw [h2]; omega
    have h5 := List.getElem?_eq_getElem h4
    unfold cnS
    rw [h5, Option.getD_some, set_sum _ _ _ h5, h1]; omega
/-- the counts add up -/
theorem cc_sum {xs : List RTrap} (h : ccOk xs = true) : (cnF xs).sum = (xs.length : Int) := by
  unfold ccOk at h
  rw [Bool.and_eq_true, Bool.not_eq_true'] at h
  have := cnF_sum xs h.2 xs.length (Nat.le_refl _)
  rwa [List.take_length] at this
theorem cc_bd (xs : List RTrap) (h : xs.length ≤ 1000) : ∀ x ∈ cnF xs, 0 ≤ x ∧ x ≤ 1000000 := by
  intro x hx
  obtain ⟨j, hj⟩ := List.getElem?_of_mem hx
  have := (cnF_inv xs xs.length (Nat.le_refl _)).2 j x (by rw [List.take_length]; exact hj)
  omega
end Go.Proofs.Ytcdocgmikpccoaa
