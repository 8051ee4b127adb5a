/- Opening an argument that is a slice of records. No conditions. -/
import Derived.Test.YtlahpnihnpmgoaaOpen
import Derived.Test.YtlahpnihnpmgoaaSl
import Derived.Deep.Slices
import Derived.ChangeSame
namespace Go.Proofs.Ytlahpnihnpmgoaa
open Go.ChangeShapes Go.WideShapes Go.ChangeAt Go.RowKit Go.Deep
set_option linter.unusedVariables false
set_option linter.unusedSimpArgs false

section
variable {H : Type} {enc : TypeId × Value → H} {P : Program} {w : World} {base : Nat} {spare : Nat → Bool} {held : Bool}
theorem open_fields {t e : TypeId} {fs : Array Field} {fuel : Nat} {cs : List Value} {x : DataW H × List MemPlace} (ht : P.underlying t = some (.slice e)) (he : P.underlying e = some (.struct fs))
    (hone : oneCellFields P fs = true) (hC : P.cellsOf e = fs.size) (h : DataW.trod enc P w base spare held fuel t cs = some x) :
    (cs = [.slice none 0 0]) ∨
    ∃ (a : Addr) (len cap : Nat), cs = [.slice (some a) len cap] ∧ len ≤ cap ∧ cap ≤ maxLen ∧
      ∀ i, i < len → ∀ (j : Nat) (f : Field), fs[j]? = some f → ∃ (v : Value) (n : Nat) (y : DataW H × List MemPlace), w.cell? (a.add (i * fs.size + j)) = some v ∧ DataW.trod enc P w base spare held n f.type [v] = some y := by
  rcases open_slice ht h with h0 | ⟨a, len, cap, m, n, D, Pl, hcs, hb, hl, hm, hmm, hx, hi⟩
  · exact .inl h0.1
  · refine .inr ⟨a, len, cap, hcs, hl, hm, fun i hil j f hj => ?_⟩
    obtain ⟨cs', hc, ht'⟩ := hi i (by rw [hmm]; split <;> omega)
    rw [hC] at hc
    obtain ⟨ys, n', hn', hy, hlen, hyl, hf⟩ := DataW.trod_struct he ht'
    obtain ⟨_, hcl, hat⟩ := World.cells?_some hc
    obtain ⟨ho, hk⟩ := hone_of hone j f hj
    have hjl : j < fs.size := (Array.getElem?_eq_some_iff.1 hj).1
    have hcell := hat j hjl
    have hv : cs'[j]? = some (cs'[j]'(by omega)) := List.getElem?_eq_getElem (by omega)
    have h1 := hf j f hj
    rw [ho, hk] at h1
    have hone' : (cs'.drop j).take 1 = [cs'[j]'(by omega)] := by
      rw [List.drop_eq_getElem_cons (by omega)]
      rfl
    rw [hone'] at h1
    have hys : ys[j]? = some (ys[j]'(by omega)) := List.getElem?_eq_getElem (by omega)
    refine ⟨_, _, _, ?_, h1.trans hys⟩
    rw [← Go.Deep.add_add, hcell, hv]
theorem list_of {α : Type} {p : Nat → α → Prop} : ∀ n : Nat, (∀ i, i < n → ∃ x, p i x) → ∃ xs : List α, xs.length = n ∧ ∀ i x, xs[i]? = some x → p i x
  | 0, _ => ⟨[], rfl, by simp⟩
  | n + 1, h => by
    obtain ⟨xs, hl, hp⟩ := list_of n fun i hi => h i (by omega)
    obtain ⟨x, hx⟩ := h n (by omega)
    refine ⟨xs ++ [x], by simp [hl], fun i y hy => ?_⟩
    rw [List.getElem?_append] at hy
    split at hy
    · exact hp i y hy
    · have hi : i = n := by
        have := (List.getElem?_eq_some_iff.1 hy).1
        simp at this; omega
      subst hi
      rw [hl, Nat.sub_self] at hy
      simp at hy
      subst hy
      exact hx
end
/-- the cells of the records, read one after the other, as a slice -/
theorem rd_of {α : Type} {f : α → List Value} {m : Nat} (hm : 0 < m) (hf : ∀ x, (f x).length = m) {w : World} {a : Addr} {n : Nat} {xs : List α} (hl : xs.length = n)
    (h : ∀ i x, xs[i]? = some x → ∀ j u, (f x)[j]? = some u → w.cell? (a.add (i * m + j)) = some u) : Rd w m (some a) n (J f xs) := by
  refine ⟨by rw [J_length hf, hl], fun hn => ?_⟩
  obtain ⟨b, o, spot⟩ := a
  have h00 : ∃ u, w.cell? ((⟨b, o, spot⟩ : Addr).add 0) = some u := by
    have hx : xs[0]? = some (xs[0]'(by omega)) := List.getElem?_eq_getElem (by omega)
    have hu : (f (xs[0]'(by omega)))[0]? = some ((f (xs[0]'(by omega)))[0]'(by rw [hf]; exact hm)) := List.getElem?_eq_getElem (by rw [hf]; exact hm)
    exact ⟨_, by simpa using h 0 _ hx 0 _ hu⟩
  obtain ⟨u0, h0⟩ := h00
  have hspot : spot = none := by simpa [Addr.add] using World.cell?_spot h0
  subst hspot
  refine ⟨b, o, rfl, ?_, fun j u hu => ?_⟩
  · have := World.block_lt_of_cell? _ _ h0
    simpa [Addr.add] using this
  · have hj : j < n * m := by
      have := (List.getElem?_eq_some_iff.1 hu).1
      rw [J_length hf, hl] at this; exact this
    have h1 : j / m < n := Nat.div_lt_of_lt_mul (by rw [Nat.mul_comm]; exact hj)
    have hx : xs[j / m]? = some (xs[j / m]'(by omega)) := List.getElem?_eq_getElem (by omega)
    have h3 := J_get hf hx (Nat.mod_lt j hm)
    have h4 := h (j / m) _ hx (j % m) u (by rw [← h3, Nat.mul_comm, Nat.div_add_mod]; exact hu)
    have hadd : (⟨b, o, none⟩ : Addr).add (j / m * m + j % m) = ⟨b, o + j, none⟩ := by
      rw [Nat.mul_comm, Nat.div_add_mod]; unfold Addr.add; split <;> simp_all
    rw [hadd] at h4
    exact h4
end Go.Proofs.Ytlahpnihnpmgoaa
