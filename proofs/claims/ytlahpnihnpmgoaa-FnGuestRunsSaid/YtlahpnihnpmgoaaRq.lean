/- Plain words on the reference's way to what is reached: numbers put to their places. Nothing of the program is called. No conditions. -/
import Derived.Test.YtlahpnihnpmgoaaRp
namespace Go.Proofs.Ytlahpnihnpmgoaa
open Go.RowKit
set_option linter.unusedVariables false
set_option linter.unusedSimpArgs false

/-- a number put to its place, once -/
def putL : List Int → Int → List Int
  | [], n => [n]
  | x :: l, n => if x < n then x :: putL l n else if x = n then x :: l else n :: x :: l
theorem putL_mem {x n : Int} : ∀ {l : List Int}, x ∈ putL l n ↔ x = n ∨ x ∈ l
  | [] => by simp [putL]
  | y :: l => by
    unfold putL
    split
    · rw [List.mem_cons, putL_mem, List.mem_cons]
      constructor
      · rintro (h | h | h)
        · exact .inr (.inl h)
        · exact .inl h
        · exact .inr (.inr h)
      · rintro (h | h | h)
        · exact .inr (.inl h)
        · exact .inl h
        · exact .inr (.inr h)
    · split
      · rename_i h
        subst h
        rw [List.mem_cons]
        constructor
        · rintro (h | h)
          · exact .inl h
          · exact .inr (.inr h)
        · rintro (h | h | h)
          · exact .inl h
          · exact .inl h
          · exact .inr h
      · rw [List.mem_cons]
theorem putL_rise {n : Int} : ∀ {l : List Int}, Rise l → Rise (putL l n)
  | [], _ => by simp [putL, Rise]
  | y :: l, h => by
    unfold Rise at h
    rw [List.pairwise_cons] at h
    unfold putL
    split
    · rename_i h1
      show List.Pairwise _ _
      rw [List.pairwise_cons]
      refine ⟨fun z hz => ?_, putL_rise h.2⟩
      rcases putL_mem.1 hz with e | e
      · omega
      · exact h.1 z e
    · split
      · show List.Pairwise _ _
        rw [List.pairwise_cons]; exact h
      · rename_i h1 h2
        show List.Pairwise _ _
        rw [List.pairwise_cons, List.pairwise_cons]
        refine ⟨fun z hz => ?_, h⟩
        rcases List.mem_cons.1 hz with e | e
        · omega
        · have := h.1 z e; omega
theorem putL_len {n : Int} : ∀ {l : List Int}, ¬ n ∈ l → (putL l n).length = l.length + 1
  | [], _ => rfl
  | y :: l, h => by
    unfold putL
    have h1 : ¬ n ∈ l := fun e => h (List.mem_cons_of_mem _ e)
    have h2 : ¬ y = n := fun e => h (by rw [e]; exact List.mem_cons_self ..)
    split
    · rw [List.length_cons, putL_len h1, List.length_cons]
    · simp [h2]
theorem rise_nodup {l : List Int} (h : Rise l) : l.Nodup := List.Pairwise.imp (fun h e => by omega) h
/-- the reference's list -/
structure Spc (ps : List RInstruction) (o : List Int) : Prop where
  rise : Rise o
  has : (0 : Int) ∈ o
  bd : ∀ x ∈ o, 0 ≤ x ∧ x < (ps.length : Int)
  sub : ∀ x ∈ o, Rch ps x
theorem Spc.start {ps : List RInstruction} (h : 0 < ps.length) : Spc ps [0] :=
  ⟨by simp [Rise], by simp, fun x hx => by simp at hx; subst hx; omega, fun x hx => by simp at hx; subst hx; exact .zero⟩
theorem Spc.put {ps : List RInstruction} {o : List Int} {i j : Int} (S : Spc ps o) (hi : i ∈ o) (hj : j ∈ sucL (insA ps i) i) (h0 : 0 ≤ j) (hl : j < (ps.length : Int)) : Spc ps (putL o j) :=
  ⟨putL_rise S.rise, putL_mem.2 (.inr S.has), fun x hx => by
    rcases putL_mem.1 hx with e | e
    · subst e; exact ⟨h0, hl⟩
    · exact S.bd x e, fun x hx => by
    rcases putL_mem.1 hx with e | e
    · subst e; exact .step i _ (S.sub i hi) hj hl
    · exact S.sub x e⟩
theorem Spc.len {ps : List RInstruction} {o : List Int} (S : Spc ps o) : o.length ≤ ps.length := nodup_len (rise_nodup S.rise) S.bd
/-- the places below k are closed -/
def ClB (ps : List RInstruction) (o : List Int) (k : Nat) : Prop := ∀ i ∈ o, i < (k : Int) → ∀ j ∈ sucL (insA ps i) i, j < (ps.length : Int) → j ∈ o
theorem Spc.done {ps : List RInstruction} {o : List Int} (S : Spc ps o) (h : ClB ps o ps.length) : RchL ps o :=
  ⟨S.has, S.sub, fun i hi j hj hl => h i hi (S.bd i hi).2 j hj hl⟩
/-- both lists are one, when the program's is put in order -/
theorem reach_eq {ps : List RInstruction} {o m : List Int} (B : RchL ps o) (S : Spc ps m) (h : ClB ps m ps.length) {s : List Int} (hs : Rise s) (hp : ∀ x, x ∈ s ↔ x ∈ o) : s = m :=
  rise_eq hs S.rise fun x => by rw [hp x, B.mem x, (S.done h).mem x]
end Go.Proofs.Ytlahpnihnpmgoaa
