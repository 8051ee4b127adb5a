/- Opening an argument that is a slice of strings. No conditions. -/
import Derived.Test.YtpgmkcnpbhalmaaSs
import Derived.Test.YtpgmkcnpbhalmaaOsl
import Derived.SliceStrings
namespace Go.Proofs.Ytpgmkcnpbhalmaa
open Go.ChangeShapes Go.WideShapes Go.ChangeAt Go.RowKit Go.Deep
set_option linter.unusedVariables false
set_option linter.unusedSimpArgs false

def wfT (x : List UInt8) : Prop := x.length ≤ 9223372036854775807
theorem J_T (xs : List (List UInt8)) : J (fun l => [Value.string ⟨l.toArray⟩]) xs = T xs := by
  induction xs with
  | nil => rfl
  | cons x r ih => rw [J_cons, ih]; rfl
set_option maxRecDepth 100000 in
theorem open_sT {H : Type} {enc : TypeId × Value → H} {w : World} {base b0 : Nat} {r : Reach} {spare : Nat → Bool} {held : Bool} {v : Value} {d : DataW H} {ps : List MemPlace} (hv : Value.okWide Try.prog w r b0 27 v)
    (h : DataW.Trod enc Try.prog w base spare held 27 v d ps) : ∃ (A : Option Addr) (n c : Nat) (xs : List (List UInt8)), v = .slice A n c ∧ n ≤ c ∧ c ≤ maxLen ∧ xs.length = n ∧ Rd w 1 A n (T xs) ∧ ∀ x ∈ xs, wfT x := by
  obtain ⟨a0, len, cap, rfl⟩ := okWide_slice Try.underlying27 hv
  obtain ⟨fuel, hf⟩ := h
  rcases Go.ChangeShapes.open_strings Try.underlying27 Try.underlying9 (by kernel_rfl) hf with ⟨hcs, _⟩ | ⟨x, l, c, ss, hcs, _, hl, hm, hz, _, hcell, hsz⟩
  · simp [Value.cells] at hcs
    obtain ⟨rfl, rfl, rfl⟩ := hcs
    exact ⟨none, 0, 0, [], rfl, Nat.le_refl _, Nat.zero_le _, rfl, Rd.nil_ _ _ _, by simp⟩
  · simp [Value.cells] at hcs
    obtain ⟨rfl, rfl, rfl⟩ := hcs
    have hzl : len ≤ ss.length := by rw [hz]; split <;> omega
    have hxl : ((ss.take len).map fun s => s.data.toList).length = len := by simp; omega
    refine ⟨some x, len, cap, (ss.take len).map fun s => s.data.toList, rfl, hl, hm, hxl, ?_, fun y hy => ?_⟩
    · rw [← J_T]
      refine rd_of (f := fun l => [Value.string ⟨l.toArray⟩]) (by decide) (fun _ => rfl) hxl fun i y hy j u hu => ?_
      rw [List.getElem?_map] at hy
      obtain ⟨s, hs, rfl⟩ := Option.map_eq_some_iff.1 hy
      have hi : i < len := by
        have := (List.getElem?_eq_some_iff.1 hs).1
        simp at this; omega
      rw [List.getElem?_take_of_lt hi] at hs
      match j, hu with
      | 0, hu =>
        have h1 := hcell i (by omega)
        have h2 : ss.getD i ByteArray.empty = s := by rw [List.getD_eq_getElem?_getD, hs]; rfl
        rw [h2] at h1
        have h3 : u = .string s := by
          have := Option.some.inj hu
          rw [← this]
        rw [h3, Nat.mul_one, Nat.add_zero]; exact h1
      | j + 1, hu => simp at hu
    · obtain ⟨s, hs, rfl⟩ := List.mem_map.1 hy
      have := hsz s (List.mem_of_mem_take hs)
      show s.data.toList.length ≤ _
      unfold maxLen at this
      have e : s.size = s.data.toList.length := by show s.data.size = _; simp
      omega
end Go.Proofs.Ytpgmkcnpbhalmaa
