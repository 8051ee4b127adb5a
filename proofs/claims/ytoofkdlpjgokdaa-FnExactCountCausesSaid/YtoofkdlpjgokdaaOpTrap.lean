/- Opening an argument that is a slice of records of Trap. No conditions. -/
import Derived.Test.YtoofkdlpjgokdaaStTrap
import Derived.Test.YtoofkdlpjgokdaaOsl
namespace Go.Proofs.Ytoofkdlpjgokdaa
open Go.ChangeShapes Go.WideShapes Go.ChangeAt Go.RowKit Go.Deep
set_option linter.unusedVariables false
set_option linter.unusedSimpArgs false

def wfTrap (x : RTrap) : Prop := (Lit.int .i64 x.f0).wf = true ∧ (Lit.int .i64 x.f1).wf = true ∧ (Lit.int .i64 x.f3).wf = true ∧ (Lit.int .i64 x.f4).wf = true
set_option maxRecDepth 100000 in
set_option linter.constructorNameAsVariable false in
theorem open_sTrap {H : Type} {enc : TypeId × Value → H} {w : World} {base b0 : Nat} {r : Reach} {spare : Nat → Bool} {held : Bool} {v : Value} {d : DataW H} {ps : List MemPlace} (hv : Value.okWide Try.prog w r b0 51 v)
    (h : DataW.Trod enc Try.prog w base spare held 51 v d ps) : ∃ (A : Option Addr) (n c : Nat) (xs : List RTrap), v = .slice A n c ∧ n ≤ c ∧ c ≤ maxLen ∧ xs.length = n ∧ Rd w 5 A n (J cTrap xs) ∧ ∀ x ∈ xs, wfTrap x := by
  obtain ⟨a0, len, cap, rfl⟩ := okWide_slice Try.underlying51 hv
  obtain ⟨fuel, hf⟩ := h
  rcases open_fields Try.underlying51 Try.underlying23 (by kernel_rfl) (by kernel_rfl) hf with hcs | ⟨x, l, c, hcs, hl, hm, hi⟩
  · simp [Value.cells] at hcs
    obtain ⟨rfl, rfl, rfl⟩ := hcs
    exact ⟨none, 0, 0, [], rfl, Nat.le_refl _, Nat.zero_le _, rfl, Rd.nil_ _ _ _, by simp⟩
  · simp [Value.cells] at hcs
    obtain ⟨rfl, rfl, rfl⟩ := hcs
    obtain ⟨xs, hxl, hxs⟩ := list_of (p := fun i y => (∀ j u, (cTrap y)[j]? = some u → w.cell? (x.add (i * 5 + j)) = some u) ∧ wfTrap y) len (fun i hil => by
      obtain ⟨v0, n0, y0, hc0, ht0⟩ := hi i hil 0 _ rfl
      obtain ⟨x0, e0, -, w0⟩ := DataW.trod_int Try.underlying3 ht0
      simp only [List.cons.injEq, and_true] at e0
      subst e0
      obtain ⟨v1, n1, y1, hc1, ht1⟩ := hi i hil 1 _ rfl
      obtain ⟨x1, e1, -, w1⟩ := DataW.trod_int Try.underlying3 ht1
      simp only [List.cons.injEq, and_true] at e1
      subst e1
      obtain ⟨v2, n2, y2, hc2, ht2⟩ := hi i hil 2 _ rfl
      obtain ⟨x2, e2, -⟩ := DataW.trod_bool Try.underlying4 ht2
      simp only [List.cons.injEq, and_true] at e2
      subst e2
      obtain ⟨v3, n3, y3, hc3, ht3⟩ := hi i hil 3 _ rfl
      obtain ⟨x3, e3, -, w3⟩ := DataW.trod_int Try.underlying3 ht3
      simp only [List.cons.injEq, and_true] at e3
      subst e3
      obtain ⟨v4, n4, y4, hc4, ht4⟩ := hi i hil 4 _ rfl
      obtain ⟨x4, e4, -, w4⟩ := DataW.trod_int Try.underlying3 ht4
      simp only [List.cons.injEq, and_true] at e4
      subst e4
      refine ⟨⟨x0, x1, x2, x3, x4⟩, fun j u hu => ?_, ⟨w0, w1, w3, w4⟩⟩
      match j, hu with
      | 0, hu => exact (Option.some.inj hu) ▸ hc0
      | 1, hu => exact (Option.some.inj hu) ▸ hc1
      | 2, hu => exact (Option.some.inj hu) ▸ hc2
      | 3, hu => exact (Option.some.inj hu) ▸ hc3
      | 4, hu => exact (Option.some.inj hu) ▸ hc4
      | j + 5, hu => exact absurd (List.getElem?_eq_some_iff.1 hu).1 (by rw [cTrap_len]; omega))
    refine ⟨some x, len, cap, xs, rfl, hl, hm, hxl, rd_of posTrap cTrap_len hxl fun i y hy => (hxs i y hy).1, fun y hy => ?_⟩
    obtain ⟨i, hi'⟩ := List.getElem?_of_mem hy
    exact (hxs i y hi').2

end Go.Proofs.Ytoofkdlpjgokdaa
