/- Plain words on what is reached in a program: the closure of 0 under the successors; a list that holds it is told by its order. Nothing of the program is called. No conditions. -/
import Derived.Test.YtlahpnihnpmgoaaStInstruction
namespace Go.Proofs.Ytlahpnihnpmgoaa
open Go.RowKit
set_option linter.unusedVariables false
set_option linter.unusedSimpArgs false

/-- where a guest goes from place i -/
def sucL (x : RInstruction) (i : Int) : List Int := if x.f0 = 0 then [] else if x.f0 = 7 then [x.f3] else if x.f0 = 8 then [i + 1, x.f3] else [i + 1]
def insA (ps : List RInstruction) (i : Int) : RInstruction := ps[i.toNat]?.getD zInstruction
/-- reached from the first instruction -/
inductive Rch (ps : List RInstruction) : Int → Prop
  | zero : Rch ps 0
  | step (i j : Int) : Rch ps i → j ∈ sucL (insA ps i) i → j < ps.length → Rch ps j
/-- a list that holds 0, lies within what is reached, and is closed -/
structure RchL (ps : List RInstruction) (l : List Int) : Prop where
  has : (0 : Int) ∈ l
  sub : ∀ x ∈ l, Rch ps x
  cl : ∀ i ∈ l, ∀ j ∈ sucL (insA ps i) i, j < ps.length → j ∈ l
theorem RchL.mem {ps : List RInstruction} {l : List Int} (h : RchL ps l) (x : Int) : x ∈ l ↔ Rch ps x :=
  ⟨h.sub x, fun hx => by
    induction hx with
    | zero => exact h.has
    | step i j _ hj hl ih => exact h.cl i ih j hj hl⟩
/-- rising -/
def Rise (l : List Int) : Prop := l.Pairwise (· < ·)
theorem rise_eq : ∀ {l m : List Int}, Rise l → Rise m → (∀ x, x ∈ l ↔ x ∈ m) → l = m
  | [], [], _, _, _ => rfl
  | [], y :: m, _, _, h => absurd ((h y).2 (List.mem_cons_self ..)) (by simp)
  | x :: l, [], _, _, h => absurd ((h x).1 (List.mem_cons_self ..)) (by simp)
  | x :: l, y :: m, hl, hm, h => by
    unfold Rise at hl hm
    rw [List.pairwise_cons] at hl hm
    have hxy : x = y := by
      rcases List.mem_cons.1 ((h x).1 (List.mem_cons_self ..)) with e | e
      · exact e
      · rcases List.mem_cons.1 ((h y).2 (List.mem_cons_self ..)) with e' | e'
        · exact e'.symm
        · have := hl.1 y e'; have := hm.1 x e; omega
    subst hxy
    have hne : ∀ z, z ∈ l → z ≠ x := fun z hz e => by have := hl.1 z hz; omega
    have hne' : ∀ z, z ∈ m → z ≠ x := fun z hz e => by have := hm.1 z hz; omega
    rw [rise_eq hl.2 hm.2 fun z => ⟨fun hz => by
      rcases List.mem_cons.1 ((h z).1 (List.mem_cons_of_mem _ hz)) with e | e
      · exact absurd e (hne z hz)
      · exact e, fun hz => by
      rcases List.mem_cons.1 ((h z).2 (List.mem_cons_of_mem _ hz)) with e | e
      · exact absurd e (hne' z hz)
      · exact e⟩]
/-- a list without doubles of numbers below n is no longer than n -/
theorem nodup_len : ∀ {n : Nat} {l : List Int}, l.Nodup → (∀ x ∈ l, 0 ≤ x ∧ x < (n : Int)) → l.length ≤ n
  | 0, [], _, _ => Nat.le_refl _
  | 0, x :: l, _, hb => by have := hb x (List.mem_cons_self ..); omega
  | n + 1, l, hd, hb => by
    have h1 := nodup_len (n := n) (l := l.erase (n : Int)) (hd.erase _) fun x hx => by
      have h2 := hd.mem_erase_iff.1 hx
      have h3 := hb x h2.2
      have h4 := h2.1
      omega
    rw [List.length_erase] at h1
    split at h1 <;> omega
/-- one more, if it is new and within -/
def addI (n : Nat) (o : List Int) (j : Int) : List Int := if j < n ∧ ¬ j ∈ o then o ++ [j] else o
theorem addI_mem {n : Nat} {o : List Int} {j x : Int} : x ∈ addI n o j ↔ x ∈ o ∨ (x = j ∧ j < n) := by
  unfold addI
  split
  · rename_i h
    rw [List.mem_append, List.mem_singleton]
    exact ⟨fun e => e.elim .inl (fun e => .inr ⟨e, h.1⟩), fun e => e.elim .inl (fun e => .inr e.1)⟩
  · rename_i h
    refine ⟨.inl, fun e => e.elim id fun ⟨e, h2⟩ => ?_⟩
    subst e
    exact Classical.byContradiction fun h3 => h ⟨h2, h3⟩
theorem addI_nodup {n : Nat} {o : List Int} {j : Int} (h : o.Nodup) : (addI n o j).Nodup := by
  unfold addI
  split
  · rename_i h2
    rw [List.nodup_append]
    exact ⟨h, by simp, fun a ha b hb e => by
      obtain rfl := List.mem_singleton.1 hb
      subst e
      exact h2.2 ha⟩
  · exact h
/-- all of a list, one after the other -/
def addA (n : Nat) (o : List Int) (l : List Int) : List Int := l.foldl (addI n) o
theorem addA_mem {n : Nat} {x : Int} : ∀ {l o : List Int}, x ∈ addA n o l ↔ x ∈ o ∨ (x ∈ l ∧ x < n)
  | [], o => by simp [addA]
  | j :: l, o => by
    show x ∈ addA n (addI n o j) l ↔ _
    rw [addA_mem, addI_mem, List.mem_cons]
    constructor
    · rintro ((h | ⟨rfl, h⟩) | ⟨h, h2⟩)
      · exact .inl h
      · exact .inr ⟨.inl rfl, h⟩
      · exact .inr ⟨.inr h, h2⟩
    · rintro (h | ⟨rfl | h, h2⟩)
      · exact .inl (.inl h)
      · exact .inl (.inr ⟨rfl, h2⟩)
      · exact .inr ⟨h, h2⟩
theorem addA_nodup {n : Nat} : ∀ {l o : List Int}, o.Nodup → (addA n o l).Nodup
  | [], _, h => h
  | j :: l, o, h => addA_nodup (l := l) (addI_nodup h)
theorem addI_pre {n : Nat} {o : List Int} {j : Int} : o <+: addI n o j := by
  unfold addI
  split
  · exact List.prefix_append _ _
  · exact List.prefix_refl _
theorem addA_pre {n : Nat} : ∀ {l o : List Int}, o <+: addA n o l
  | [], _ => List.prefix_refl _
  | j :: l, o => addI_pre.trans (addA_pre (l := l))
/-- the program's list when the places below k are done -/
structure Bfs (ps : List RInstruction) (k : Nat) (o : List Int) : Prop where
  nd : o.Nodup
  has : (0 : Int) ∈ o
  le : k ≤ o.length
  bd : ∀ x ∈ o, 0 ≤ x ∧ x < (ps.length : Int)
  sub : ∀ x ∈ o, Rch ps x
  cl : ∀ i, i < k → ∀ x, o[i]? = some x → ∀ j ∈ sucL (insA ps x) x, j < ps.length → j ∈ o
theorem Bfs.start {ps : List RInstruction} (h : 0 < ps.length) : Bfs ps 0 [0] :=
  ⟨by simp, by simp, by simp, fun x hx => by simp at hx; subst hx; omega, fun x hx => by simp at hx; subst hx; exact .zero, fun i hi => absurd hi (Nat.not_lt_zero _)⟩
theorem Bfs.step {ps : List RInstruction} {k : Nat} {o : List Int} {x : Int} (B : Bfs ps k o) (hx : o[k]? = some x) (h0 : ∀ j ∈ sucL (insA ps x) x, 0 ≤ j) : Bfs ps (k + 1) (addA ps.length o (sucL (insA ps x) x)) := by
  have hk : k < o.length := (List.getElem?_eq_some_iff.1 hx).1
  have hpre := addA_pre (n := ps.length) (l := sucL (insA ps x) x) (o := o)
  have hlen := hpre.length_le
  have hat : ∀ i, i < o.length → (addA ps.length o (sucL (insA ps x) x))[i]? = o[i]? := fun i hi => by
    obtain ⟨t, ht⟩ := hpre
    rw [← ht, List.getElem?_append_left hi]
  refine ⟨addA_nodup B.nd, addA_mem.2 (.inl B.has), by omega, fun y hy => ?_, fun y hy => ?_, fun i hi y hy j hj hl => ?_⟩
  · rcases addA_mem.1 hy with h | ⟨h, h2⟩
    · exact B.bd y h
    · exact ⟨h0 y h, h2⟩
  · rcases addA_mem.1 hy with h | ⟨h, h2⟩
    · exact B.sub y h
    · exact .step x y (B.sub x (List.mem_of_getElem? hx)) h h2
  · rw [hat i (by omega)] at hy
    by_cases he : i = k
    · subst he
      obtain rfl := Option.some.inj (hx.symm.trans hy)
      exact addA_mem.2 (.inr ⟨hj, hl⟩)
    · exact addA_mem.2 (.inl (B.cl i (by omega) y hy j hj hl))
theorem Bfs.done {ps : List RInstruction} {o : List Int} (B : Bfs ps o.length o) : RchL ps o :=
  ⟨B.has, B.sub, fun i hi j hj hl => by
    obtain ⟨k, hk⟩ := List.getElem?_of_mem hi
    exact B.cl k (List.getElem?_eq_some_iff.1 hk).1 i hk j hj hl⟩
theorem Bfs.len {ps : List RInstruction} {k : Nat} {o : List Int} (B : Bfs ps k o) : o.length ≤ ps.length := nodup_len B.nd B.bd
end Go.Proofs.Ytlahpnihnpmgoaa
