/- More words on slices of the call's own in blocks apart: one of them is appended to; several are new at once. No conditions. -/
import Derived.Test.YtaaocnfbbajphaaSl
namespace Go.Proofs.Ytaaocnfbbajphaa
open Go.RowKit
set_option linter.unusedVariables false
set_option linter.unusedSimpArgs false

/-- one of them is replaced: written in its own block, or moved to a new one -/
theorem Sep.app {W0 w w' : World} {L : List Thing} (S : Sep W0 w L) (i : Nat) {t t' : Thing} (h : L[i]? = some t) (hg : w.grownBy w' (blk t.A)) (hat : blk t'.A = blk t.A ∨ blk t'.A = some w.heap.size)
    (ho : Own w' W0.heap.size t') : Sep W0 w' (L.set i t') := by
  have hil : i < L.length := (List.getElem?_eq_some_iff.1 h).1
  have hidx : ∀ (j : Nat) (s : Thing), (L.set i t')[j]? = some s → (j ≠ i ∧ L[j]? = some s) ∨ (j = i ∧ s = t') := by
    intro j s hs
    by_cases hji : j = i
    · subst hji; rw [List.getElem?_set_self hil] at hs; exact .inr ⟨rfl, (Option.some.inj hs).symm⟩
    · rw [List.getElem?_set_ne (fun e => hji e.symm)] at hs; exact .inl ⟨hji, hs⟩
  have hlt : ∀ (j : Nat) (s : Thing), L[j]? = some s → ∀ k, blk s.A = some k → k < w.heap.size := fun j s hs k hk => ((S.own j s hs).lt k (by rw [ownBlock_slice]; exact hk)).2
  refine ⟨⟨hg.os.trans S.bel.os, hg.tape.trans S.bel.tape, hg.output.trans S.bel.output, Nat.le_trans S.bel.size hg.size, fun k hk => ?_⟩, fun j s hs => ?_, fun j k s u hjk hs hu => ?_⟩
  · refine (hg.block k (Nat.lt_of_lt_of_le hk S.bel.size) fun e => ?_).trans (S.bel.block k hk)
    have := (S.own i t h).lt k (by rw [ownBlock_slice]; exact e.symm)
    omega
  · rcases hidx j s hs with ⟨hne, h1⟩ | ⟨_, rfl⟩
    · refine (S.own j s h1).kept hg ?_
      rw [ownBlock_slice]
      exact S.apart j i s t hne h1 h
    · exact ho
  · rcases hidx j s hs with ⟨hne, h1⟩ | ⟨rfl, rfl⟩ <;> rcases hidx k u hu with ⟨hne2, h2⟩ | ⟨rfl, rfl⟩
    · exact S.apart j k s u hjk h1 h2
    · rcases hat with hat | hat
      · rw [hat]; exact S.apart j _ s t hne h1 h
      · cases hA : blk s.A with
        | none => exact .inl rfl
        | some b =>
          have := hlt j s h1 b hA
          rw [hat]; exact .inr (fun e => by have := Option.some.inj e; omega)
    · rcases hat with hat | hat
      · rw [hat]; exact S.apart _ k t u hjk h h2
      · rw [hat]
        refine .inr (fun e => ?_)
        have := hlt k u h2 _ e.symm
        omega
    · omega
theorem Own.mono {w w' : World} {B : Nat} {t : Thing} (h : Own w B t) (hb : Below w.heap.size w w') : Own w' B t := by
  refine World.ownsRow.kept (row := none) h (grown_of_below hb _) ?_
  cases hA : t.A <;> simp [ownBlock_slice, blk]
theorem Sep.perm {W0 w : World} {L M : List Thing} (S : Sep W0 w L) (h : L.Perm M) : Sep W0 w M := by
  have h1 : L.Pairwise fun s t => blk s.A = none ∨ blk s.A ≠ blk t.A := by
    rw [List.pairwise_iff_getElem]
    intro i j hi hj hij
    exact S.apart i j _ _ (by omega) (List.getElem?_eq_getElem hi) (List.getElem?_eq_getElem hj)
  have hs : ∀ {s t : Thing}, (blk s.A = none ∨ blk s.A ≠ blk t.A) → (blk t.A = none ∨ blk t.A ≠ blk s.A) := by
    intro s t h
    rcases h with h | h
    · cases ht : blk t.A with
      | none => exact .inl rfl
      | some b => right; rw [h]; simp
    · exact .inr (Ne.symm h)
  have h2 := (h.pairwise_iff (R := fun s t : Thing => blk s.A = none ∨ blk s.A ≠ blk t.A) hs).1 h1
  rw [List.pairwise_iff_getElem] at h2
  refine ⟨S.bel, fun i t ht => ?_, fun i j s t hij hs' ht => ?_⟩
  · have hm := h.mem_iff.2 (List.mem_of_getElem? ht)
    obtain ⟨k, hk⟩ := List.getElem?_of_mem hm
    exact S.own k t hk
  · obtain ⟨hi, rfl⟩ := List.getElem?_eq_some_iff.1 hs'
    obtain ⟨hj, rfl⟩ := List.getElem?_eq_some_iff.1 ht
    rcases Nat.lt_or_ge i j with hlt | hge
    · exact h2 i j hi hj hlt
    · exact hs (h2 j i hj hi (by omega))

theorem Sep.takeL {W0 w : World} {P M : List Thing} (S : Sep W0 w (P ++ M)) : Sep W0 w P :=
  have e : ∀ {i : Nat} {t : Thing}, P[i]? = some t → (P ++ M)[i]? = some t := fun {i t} h => by rw [List.getElem?_append_left (List.getElem?_eq_some_iff.1 h).1]; exact h
  ⟨S.bel, fun i t h => S.own i t (e h), fun i j s t hij hs ht => S.apart i j s t hij (e hs) (e ht)⟩
end Go.Proofs.Ytaaocnfbbajphaa
