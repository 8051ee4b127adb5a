/- Opening an argument that is a table. No conditions. -/
import Derived.Test.YtkgpdiajnjekcaaTs
import Derived.Test.YtkgpdiajnjekcaaOpEntry
namespace Go.Proofs.Ytkgpdiajnjekcaa
open Go.ChangeShapes Go.WideShapes Go.ChangeAt Go.RowKit Go.Deep
set_option linter.unusedVariables false
set_option linter.unusedSimpArgs false

section
variable {H : Type} {enc : TypeId × Value → H} {w : World} {base : Nat} {spare : Nat → Bool} {held : Bool}
theorem open_leaf {u : Value} {fuel : Nat} {y : DataW H × List MemPlace} (hf : DataW.trod enc Try.prog w base spare held fuel 113 [u] = some y) :
    ∃ l : Leaf, u = l.cell ∧ Rd w 2 l.A l.es.length (J cEntry l.es) ∧ l.es.length ≤ maxLen := by
  rcases open_fields Try.underlying113 Try.underlying119 (by kernel_rfl) (by kernel_rfl) hf with hcs | ⟨x, len, c, hcs, hl, hm, hi⟩
  · simp only [List.cons.injEq, and_true] at hcs
    exact ⟨⟨none, 0, []⟩, hcs, Rd.nil_ _ _ _, Nat.zero_le _⟩
  · simp only [List.cons.injEq, and_true] at hcs
    obtain ⟨xs, hxl, hxs⟩ := list_of (p := fun i y => (∀ j u, (cEntry y)[j]? = some u → w.cell? (x.add (i * 2 + j)) = some u)) len (fun i hil => by
      obtain ⟨v0, n0, y0, hc0, ht0⟩ := hi i hil 0 _ rfl
      obtain ⟨x0, e0, -, w0⟩ := DataW.trod_int Try.underlying3 ht0
      simp only [List.cons.injEq, and_true] at e0
      subst e0
      obtain ⟨v1, n1, y1, hc1, ht1⟩ := hi i hil 1 _ rfl
      obtain ⟨x1, e1, -⟩ := DataW.trod_bool Try.underlying4 ht1
      simp only [List.cons.injEq, and_true] at e1
      subst e1
      refine ⟨⟨x0, x1⟩, fun j u hu => ?_⟩
      match j, hu with
      | 0, hu => exact (Option.some.inj hu) ▸ hc0
      | 1, hu => exact (Option.some.inj hu) ▸ hc1
      | j + 2, hu => exact absurd (List.getElem?_eq_some_iff.1 hu).1 (by rw [cEntry_len]; omega))
    subst hxl
    exact ⟨⟨some x, c, xs⟩, hcs, rd_of posEntry cEntry_len rfl fun i y hy => hxs i y hy, Nat.le_trans hl hm⟩
theorem J_cell (ls : List Leaf) : J (fun l : Leaf => [l.cell]) ls = ls.map Leaf.cell := by
  induction ls with
  | nil => rfl
  | cons x ls ih => rw [J_cons, ih]; rfl
theorem open_rows {u : Value} {fuel : Nat} {y : DataW H × List MemPlace} (hf : DataW.trod enc Try.prog w base spare held fuel 41 [u] = some y) :
    ∃ (A : Option Addr) (c : Nat) (ls : List Leaf), u = .slice A ls.length c ∧ Rd w 1 A ls.length (ls.map Leaf.cell) ∧ (∀ (j : Nat) (x : Leaf), ls[j]? = some x → Rd w 2 x.A x.es.length (J cEntry x.es)) ∧ ls.length ≤ maxLen ∧ ∀ l ∈ ls, l.es.length ≤ maxLen := by
  rcases open_slice1 Try.underlying41 (by kernel_rfl) hf with ⟨hcs, _⟩ | ⟨a, len, cap, m, n, V, D, Pl, hcs, hb, hl, hm, hmm, _, hi⟩
  · simp only [List.cons.injEq, and_true] at hcs
    exact ⟨none, 0, [], hcs, Rd.nil_ _ _ _, by simp, Nat.zero_le _, by simp⟩
  · simp only [List.cons.injEq, and_true] at hcs
    obtain ⟨ls, hxl, hxs⟩ := list_of (p := fun i (y : Leaf) => w.cell? (a.add i) = some y.cell ∧ Rd w 2 y.A y.es.length (J cEntry y.es) ∧ y.es.length ≤ maxLen) len (fun i hil => by
      obtain ⟨h1, h2⟩ := hi i (by rw [hmm]; split <;> omega)
      obtain ⟨l, hl1, hl2, hl3⟩ := open_leaf h2
      exact ⟨l, by rw [h1, hl1], hl2, hl3⟩)
    subst hxl
    refine ⟨some a, cap, ls, hcs, ?_, fun j x hx => (hxs j x hx).2.1, Nat.le_trans hl hm, fun l hl' => ?_⟩
    · rw [← J_cell]
      refine rd_of (f := fun l : Leaf => [l.cell]) (by decide) (fun _ => rfl) rfl fun i y hy j u hu => ?_
      match j, hu with
      | 0, hu => rw [Nat.mul_one, Nat.add_zero]; exact (Option.some.inj hu) ▸ (hxs i y hy).1
      | j + 1, hu => simp at hu
    · obtain ⟨i, hi'⟩ := List.getElem?_of_mem hl'
      exact (hxs i l hi').2.2
theorem open_dirs {u : Value} {fuel : Nat} {y : DataW H × List MemPlace} (hf : DataW.trod enc Try.prog w base spare held fuel 24 [u] = some y) :
    ∃ (A : Option Addr) (c : Nat) (xs : List Int), u = .slice A xs.length c ∧ xs.length ≤ c ∧ c ≤ maxLen ∧ Rd w 1 A xs.length (I xs) := by
  rcases open_ints Try.underlying24 Try.underlying3 (by kernel_rfl) hf with ⟨hcs, _⟩ | ⟨x, l, c, zs, hcs, _, hl, hm, hz, _, hcell, hwz⟩
  · simp only [List.cons.injEq, and_true] at hcs
    exact ⟨none, 0, [], hcs, Nat.le_refl _, Nat.zero_le _, Rd.nil_ _ _ _⟩
  · simp only [List.cons.injEq, and_true] at hcs
    have hzl : l ≤ zs.length := by rw [hz]; split <;> omega
    have hlen : (zs.take l).length = l := by simp; omega
    refine ⟨some x, c, zs.take l, by rw [hlen]; exact hcs, by omega, hm, by simp [I_length], fun hn => ?_⟩
    have h0 := hcell 0 (by omega)
    obtain ⟨b, o, spot⟩ := x
    have hspot : spot = none := by simpa [Addr.add] using World.cell?_spot h0
    subst hspot
    refine ⟨b, o, rfl, ?_, fun j u hu => ?_⟩
    · have := World.block_lt_of_cell? _ _ h0
      simpa [Addr.add] using this
    · have hj : j < l := by
        have := (List.getElem?_eq_some_iff.1 hu).1
        rw [I_length, List.length_take] at this; omega
      have h1 := hcell j (by omega)
      have hadd : (⟨b, o, none⟩ : Addr).add j = ⟨b, o + j, none⟩ := by unfold Addr.add; split <;> simp_all
      rw [hadd] at h1
      rw [h1, ← hu, I_get (by rw [List.length_take]; omega), List.getElem?_take_of_lt hj]
      simp [List.getD]
end
set_option maxRecDepth 100000 in
theorem open_tab {H : Type} {enc : TypeId × Value → H} {w : World} {base b0 : Nat} {r : Reach} {spare : Nat → Bool} {held : Bool} {v : Value} {d : DataW H} {p : List MemPlace} (hv : Value.okWide Try.prog w r b0 43 v)
    (h : DataW.Trod enc Try.prog w base spare held 43 v d p) : ∃ T : Tab, v = tabV T ∧ RdT w T ∧ (T.D.length ≤ T.cd ∧ T.cd ≤ maxLen) ∧ T.L.length ≤ maxLen ∧ ∀ l ∈ T.L, l.es.length ≤ maxLen := by
  obtain ⟨cs, m, rfl, hl, hf⟩ := open_struct Try.underlying43 (by kernel_rfl) (by kernel_rfl) hv h
  match cs, hl with
  | [c0, c1], _ =>
    obtain ⟨_, y0, he0, ht0⟩ := hf 0 _ rfl
    obtain ⟨_, y1, he1, ht1⟩ := hf 1 _ rfl
    simp only [List.getElem?_cons_zero, List.getElem?_cons_succ, Option.some.injEq] at he0 he1
    subst he0 he1
    obtain ⟨A, c, xs, rfl, h1, h2, h3⟩ := open_dirs ht0
    obtain ⟨A2, c2, ls, rfl, h4, h5, h6, h7⟩ := open_rows ht1
    exact ⟨⟨A, c, xs, A2, c2, ls⟩, rfl, ⟨h3, h4, h5⟩, ⟨h1, h2⟩, h6, h7⟩
end Go.Proofs.Ytkgpdiajnjekcaa
