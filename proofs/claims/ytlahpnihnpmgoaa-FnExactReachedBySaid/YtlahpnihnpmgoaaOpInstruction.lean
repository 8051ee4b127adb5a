/- Opening an argument that is a slice of records of Instruction. No conditions. -/
import Derived.Test.YtlahpnihnpmgoaaStInstruction
import Derived.Test.YtlahpnihnpmgoaaOsl
namespace Go.Proofs.Ytlahpnihnpmgoaa
open Go.ChangeShapes Go.WideShapes Go.ChangeAt Go.RowKit Go.Deep
set_option linter.unusedVariables false
set_option linter.unusedSimpArgs false

def wfInstruction (x : RInstruction) : Prop := (Lit.int .i64 x.f0).wf = true ∧ (Lit.int .i64 x.f1).wf = true ∧ (Lit.int .i64 x.f2).wf = true ∧ (Lit.int .i64 x.f3).wf = true
set_option maxRecDepth 100000 in
set_option linter.constructorNameAsVariable false in
theorem open_sInstruction {H : Type} {enc : TypeId × Value → H} {w : World} {base b0 : Nat} {r : Reach} {spare : Nat → Bool} {held : Bool} {v : Value} {d : DataW H} {ps : List MemPlace} (hv : Value.okWide Try.prog w r b0 22 v)
    (h : DataW.Trod enc Try.prog w base spare held 22 v d ps) : ∃ (A : Option Addr) (n c : Nat) (xs : List RInstruction), v = .slice A n c ∧ n ≤ c ∧ c ≤ maxLen ∧ xs.length = n ∧ Rd w 4 A n (J cInstruction xs) ∧ ∀ x ∈ xs, wfInstruction x := by
  obtain ⟨a0, len, cap, rfl⟩ := okWide_slice Try.underlying22 hv
  obtain ⟨fuel, hf⟩ := h
  rcases open_fields Try.underlying22 Try.underlying55 (by kernel_rfl) (by kernel_rfl) hf with hcs | ⟨x, l, c, hcs, hl, hm, hi⟩
  · simp [Value.cells] at hcs
    obtain ⟨rfl, rfl, rfl⟩ := hcs
    exact ⟨none, 0, 0, [], rfl, Nat.le_refl _, Nat.zero_le _, rfl, Rd.nil_ _ _ _, by simp⟩
  · simp [Value.cells] at hcs
    obtain ⟨rfl, rfl, rfl⟩ := hcs
    obtain ⟨xs, hxl, hxs⟩ := list_of (p := fun i y => (∀ j u, (cInstruction y)[j]? = some u → w.cell? (x.add (i * 4 + j)) = some u) ∧ wfInstruction y) len (fun i hil => by
      obtain ⟨v0, n0, y0, hc0, ht0⟩ := hi i hil 0 _ rfl
      obtain ⟨x0, e0, -, w0⟩ := DataW.trod_int Try.underlying3 ht0
      simp only [List.cons.injEq, and_true] at e0
      subst e0
      obtain ⟨v1, n1, y1, hc1, ht1⟩ := hi i hil 1 _ rfl
      obtain ⟨x1, e1, -, w1⟩ := DataW.trod_int Try.underlying3 ht1
      simp only [List.cons.injEq, and_true] at e1
      subst e1
      obtain ⟨v2, n2, y2, hc2, ht2⟩ := hi i hil 2 _ rfl
      obtain ⟨x2, e2, -, w2⟩ := DataW.trod_int Try.underlying3 ht2
      simp only [List.cons.injEq, and_true] at e2
      subst e2
      obtain ⟨v3, n3, y3, hc3, ht3⟩ := hi i hil 3 _ rfl
      obtain ⟨x3, e3, -, w3⟩ := DataW.trod_int Try.underlying3 ht3
      simp only [List.cons.injEq, and_true] at e3
      subst e3
      refine ⟨⟨x0, x1, x2, x3⟩, fun j u hu => ?_, ⟨w0, w1, w2, w3⟩⟩
      match j, hu with
      | 0, hu => exact (Option.some.inj hu) ▸ hc0
      | 1, hu => exact (Option.some.inj hu) ▸ hc1
      | 2, hu => exact (Option.some.inj hu) ▸ hc2
      | 3, hu => exact (Option.some.inj hu) ▸ hc3
      | j + 4, hu => exact absurd (List.getElem?_eq_some_iff.1 hu).1 (by rw [cInstruction_len]; omega))
    refine ⟨some x, len, cap, xs, rfl, hl, hm, hxl, rd_of posInstruction cInstruction_len hxl fun i y hy => (hxs i y hy).1, fun y hy => ?_⟩
    obtain ⟨i, hi'⟩ := List.getElem?_of_mem hy
    exact (hxs i y hi').2

end Go.Proofs.Ytlahpnihnpmgoaa
