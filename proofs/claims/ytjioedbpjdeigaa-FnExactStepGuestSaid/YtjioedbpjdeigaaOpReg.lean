/- Opening an argument that is a struct of registers. No conditions. -/
import Derived.Test.YtjioedbpjdeigaaRg
import Derived.Test.YtjioedbpjdeigaaOsl
namespace Go.Proofs.Ytjioedbpjdeigaa
open Go.ChangeShapes Go.WideShapes Go.ChangeAt Go.RowKit Go.Deep
set_option linter.unusedVariables false
set_option linter.unusedSimpArgs false

section
variable {H : Type} {enc : TypeId × Value → H} {P : Program} {w : World} {base : Nat} {spare : Nat → Bool} {held : Bool}
/-- a cell that holds a slice of ints -/
theorem open_rd1 {t e : TypeId} {u : Value} {fuel : Nat} {y : DataW H × List MemPlace} (ht : P.underlying t = some (.slice e)) (he : P.underlying e = some (.int .i64)) (hc : P.cellsOf e = 1)
    (hf : DataW.trod enc P w base spare held fuel t [u] = some y) :
    ∃ (A : Option Addr) (n c : Nat) (xs : List Int), u = .slice A n c ∧ n ≤ c ∧ c ≤ maxLen ∧ xs.length = n ∧ Rd w 1 A n (I xs) ∧ ∀ x ∈ xs, (Lit.int .i64 x).wf = true := by
  rcases open_ints ht he hc hf with ⟨hcs, _⟩ | ⟨x, l, c, zs, hcs, _, hl, hm, hz, _, hcell, hwz⟩
  · simp only [List.cons.injEq, and_true] at hcs
    exact ⟨none, 0, 0, [], hcs, Nat.le_refl _, Nat.zero_le _, rfl, Rd.nil_ _ _ _, by simp⟩
  · simp only [List.cons.injEq, and_true] at hcs
    have hzl : l ≤ zs.length := by rw [hz]; split <;> omega
    refine ⟨some x, l, c, zs.take l, hcs, hl, hm, by simp; omega, ⟨by simp [I_length]; omega, fun hn => ?_⟩, fun y hy => hwz y (List.mem_of_mem_take hy)⟩
    have h0 := hcell 0 (by omega)
    obtain ⟨b, o, spot⟩ := x
    have hspot : spot = none := by simpa [Addr.add] using World.cell?_spot h0
    subst hspot
    refine ⟨b, o, rfl, ?_, fun j u hu => ?_⟩
    · have := World.block_lt_of_cell? _ _ h0
      simpa [Addr.add] using this
    · have hj : j < l := by
        have := (List.getElem?_eq_some_iff.1 hu).1
        rw [I_length, List.length_take] at this; omega
      have h1 := hcell j (by omega)
      have hadd : (⟨b, o, none⟩ : Addr).add j = ⟨b, o + j, none⟩ := by unfold Addr.add; split <;> simp_all
      rw [hadd] at h1
      rw [h1, ← hu, I_get (by rw [List.length_take]; omega), List.getElem?_take_of_lt hj]
      simp [List.getD]
end
set_option maxRecDepth 100000 in
theorem open_regs {H : Type} {enc : TypeId × Value → H} {w : World} {base b0 : Nat} {r : Reach} {spare : Nat → Bool} {held : Bool} {v : Value} {d : DataW H} {p : List MemPlace} (hv : Value.okWide Try.prog w r b0 25 v)
    (h : DataW.Trod enc Try.prog w base spare held 25 v d p) : ∃ (A : Option Addr) (n c : Nat) (xs : List Int) (a : Int) (z s : Bool), v = regV A n c a z s ∧ n ≤ c ∧ c ≤ maxLen ∧ Rd w 1 A n (I xs) ∧ (Lit.int .i64 a).wf = true := by
  obtain ⟨cs, m, rfl, hl, hf⟩ := open_struct Try.underlying25 (by kernel_rfl) (by kernel_rfl) hv h
  match cs, hl with
  | [c0, c1, c2, c3], _ =>
    obtain ⟨_, y0, he0, ht0⟩ := hf 0 _ rfl
    obtain ⟨_, y1, he1, ht1⟩ := hf 1 _ rfl
    obtain ⟨_, y2, he2, ht2⟩ := hf 2 _ rfl
    obtain ⟨_, y3, he3, ht3⟩ := hf 3 _ rfl
    simp only [List.getElem?_cons_zero, List.getElem?_cons_succ, Option.some.injEq] at he0 he1 he2 he3
    subst he0 he1 he2 he3
    obtain ⟨A, n, c, xs, rfl, h1, h2, h3, h4, h5⟩ := open_rd1 Try.underlying23 Try.underlying3 (by kernel_rfl) ht0
    obtain ⟨x1, e1, -, w1⟩ := DataW.trod_int Try.underlying3 ht1
    obtain ⟨x2, e2, -⟩ := DataW.trod_bool Try.underlying4 ht2
    obtain ⟨x3, e3, -⟩ := DataW.trod_bool Try.underlying4 ht3
    simp only [List.cons.injEq, and_true] at e1 e2 e3
    subst e1 e2 e3
    exact ⟨A, n, c, xs, x1, x2, x3, rfl, h1, h2, h4, w1⟩
end Go.Proofs.Ytjioedbpjdeigaa
