/- Plain facts on sealed texts: what is sealed is verified, and a text with any one byte changed is not. No conditions. -/
import Derived.Test.YtppnmpkefchknaaDoorVc
import Derived.Test.YtppnmpkefchknaaDoorPc
namespace Go.Proofs.YtppnmpkefchknaaDoor
open Go.RowKit
set_option linter.unusedVariables false
set_option linter.unusedSimpArgs false

theorem dec_no35 (k : Nat) : stB 35 (Lib.decDigits k) = false := by
  induction k using Nat.strongRecOn with
  | _ k ih =>
    have hd : ∀ j : Nat, j < 10 → (UInt8.ofNat (48 + j) == 35) = false := by
      intro j hj
      have : j = 0 ∨ j = 1 ∨ j = 2 ∨ j = 3 ∨ j = 4 ∨ j = 5 ∨ j = 6 ∨ j = 7 ∨ j = 8 ∨ j = 9 := by omega
      rcases this with rfl | rfl | rfl | rfl | rfl | rfl | rfl | rfl | rfl | rfl <;> rfl
    by_cases h : k < 10
    · rw [dec_small h]
      show (UInt8.ofNat (48 + k) == 35 || false) = false
      rw [hd k h]; rfl
    · rw [dec_big h]
      unfold stB at ih ⊢
      rw [List.any_append, ih (k / 10) (by omega)]
      show (false || (UInt8.ofNat (48 + k % 10) == 35 || false)) = false
      rw [hd (k % 10) (by omega)]; rfl
theorem itoa_no35 {n : Int} (h : 0 ≤ n) : stB 35 (Lib.itoa n) = false := by
  unfold Lib.itoa
  rw [if_neg (by omega)]
  exact dec_no35 _
theorem itoa_inj {a b : Int} (h : Lib.itoa a = Lib.itoa b) : a = b := by
  have h1 := atoi_itoa a
  rw [h, atoi_itoa b] at h1
  exact (Option.some.inj h1).symm
theorem stB_at {b c : UInt8} {l : List UInt8} (h : stB b l = false) {k : Nat} (hc : l[k]? = some c) : c ≠ b := by
  intro e
  subst e
  have : stB c l = true := List.any_eq_true.2 ⟨c, List.mem_of_getElem? hc, by simp⟩
  rw [h] at this; cases this
/-- where the mark of a sealed text stands -/
theorem seal_mark {l : List UInt8} (h : stB 35 l = false) (k : Nat) : (sealL l)[k]? = some 35 ↔ k = l.length := by
  have h2 := itoa_no35 (sumL_bd l).1
  unfold sealL
  rw [List.append_assoc]
  rcases Nat.lt_trichotomy k l.length with hk | hk | hk
  · rw [List.getElem?_append_left hk]
    exact ⟨fun e => absurd rfl (stB_at h e), fun e => by omega⟩
  · subst hk
    rw [List.getElem?_append_right (Nat.le_refl _), Nat.sub_self]
    simp
  · rw [List.getElem?_append_right (by omega)]
    obtain ⟨j, hj⟩ : ∃ j, k - l.length = j + 1 := ⟨k - l.length - 1, by omega⟩
    rw [hj]
    simp only [List.singleton_append, List.getElem?_cons_succ]
    exact ⟨fun e => absurd rfl (stB_at h2 e), fun e => by omega⟩
theorem step_ne {a b : Int} (c : UInt8) (ha : 0 ≤ a ∧ a < 999979) (hb : 0 ≤ b ∧ b < 999979) (h : a ≠ b) : sumS a c ≠ sumS b c := by
  unfold sumS
  omega
theorem fold_ne : ∀ (l : List UInt8) {a b : Int}, (0 ≤ a ∧ a < 999979) → (0 ≤ b ∧ b < 999979) → a ≠ b → l.foldl sumS a ≠ l.foldl sumS b
  | [], _, _, _, _, h => h
  | c :: l, a, b, ha, hb, h => fold_ne l (sumS_bd a c) (sumS_bd b c) (step_ne c ha hb h)
theorem fold_set : ∀ (l : List UInt8) (k : Nat) (a : Int) (c d : UInt8), (0 ≤ a ∧ a < 999979) → l[k]? = some c → c ≠ d → (l.set k d).foldl sumS a ≠ l.foldl sumS a
  | [], k, _, _, _, _, h, _ => by simp at h
  | y :: l, 0, a, c, d, ha, h, hcd => by
    simp at h
    subst h
    have h1 := y.toNat_lt
    have h2 := d.toNat_lt
    have h3 : y.toNat ≠ d.toNat := fun e => hcd (UInt8.toNat_inj.1 e)
    show l.foldl sumS (sumS a d) ≠ l.foldl sumS (sumS a y)
    refine fold_ne l (sumS_bd _ _) (sumS_bd _ _) ?_
    unfold sumS
    omega
  | y :: l, k + 1, a, c, d, ha, h, hcd => fold_set l k (sumS a y) c d (sumS_bd _ _) (by simpa using h) hcd
theorem sum_set {l : List UInt8} {k : Nat} {c d : UInt8} (h : l[k]? = some c) (hcd : c ≠ d) : sumL (l.set k d) ≠ sumL l := fold_set l k 7 c d (by omega) h hcd
theorem pre_seal {l : List UInt8} (h : stB 35 l = false) : preL 35 (sealL l) = l := by
  unfold sealL
  rw [List.append_assoc]
  induction l with
  | nil => simp [preL]
  | cons c l ih =>
    rw [stB_cons, Bool.or_eq_false_iff] at h
    have hc : ¬ c = 35 := by simpa using h.1
    rw [List.cons_append, preL, if_neg hc]
    congr 1
    have h2 : sealL l = sealL l := rfl
    -- the tail's sum plays no part
    have : ∀ t : List UInt8, preL 35 (l ++ ([35] ++ t)) = l := by
      have h3 := h.2
      clear ih h2 h hc
      intro t
      induction l with
      | nil => simp [preL]
      | cons c l ih =>
        rw [stB_cons, Bool.or_eq_false_iff] at h3
        have hc : ¬ c = 35 := by simpa using h3.1
        rw [List.cons_append, preL, if_neg hc, ih h3.2]
    exact this _
/-- what is sealed is verified -/
theorem seal_ok {l : List UInt8} (h : apOk l = true) : vcOk (sealL l) = true ∧ preL 35 (sealL l) = l ∧ 1 ≤ (sealL l).length ∧ (sealL l).length ≤ 4000 := by
  unfold apOk at h
  rw [Bool.and_eq_true, Bool.and_eq_true] at h
  obtain ⟨_, h2, h3⟩ := h
  have h4 : stB 35 l = false := by simpa using h2
  have h5 := pre_seal h4
  refine ⟨?_, h5, ?_, by simpa [shortB] using h3⟩
  · unfold vcOk
    rw [h3, h5]
    simp
  · unfold sealL; simp; omega
/-- one byte changed is found -/
theorem seal_bad {l : List UInt8} (h : apOk l = true) {k : Nat} {c d : UInt8} (hc : (sealL l)[k]? = some c) (hcd : c ≠ d) : vcOk ((sealL l).set k d) = false := by
  unfold apOk at h
  rw [Bool.and_eq_true, Bool.and_eq_true] at h
  have h4 : stB 35 l = false := by simpa using h.2.1
  have hk := (List.getElem?_eq_some_iff.1 hc).1
  cases hv : vcOk ((sealL l).set k d) with
  | false => rfl
  | true =>
    exfalso
    unfold vcOk at hv
    rw [Bool.and_eq_true, beq_iff_eq] at hv
    obtain ⟨p, hp⟩ : ∃ p, p = preL 35 ((sealL l).set k d) := ⟨_, rfl⟩
    have hps : stB 35 p = false := by rw [hp]; exact stB_pre _ _
    have e := hv.2
    rw [← hp] at e
    have m1 : ∀ j, j ≠ k → (sealL p)[j]? = (sealL l)[j]? := fun j hj => by rw [e, List.getElem?_set_ne (Ne.symm hj)]
    have m2 : (sealL p)[k]? = some d := by rw [e, List.getElem?_set_self hk]
    have hab : p.length = l.length := by
      rcases Nat.decEq p.length l.length with h0 | h0
      · exfalso
        have a1 := (seal_mark hps p.length).2 rfl
        have a2 := (seal_mark h4 l.length).2 rfl
        have a3 : p.length = k := by
          rcases Nat.decEq p.length k with h1 | h1
          · exact absurd ((seal_mark h4 p.length).1 (by rw [← m1 _ h1]; exact a1)) h0
          · exact h1
        have a4 : l.length = k := by
          rcases Nat.decEq l.length k with h1 | h1
          · exact absurd ((seal_mark hps l.length).1 (by rw [m1 _ h1]; exact a2)) (fun e => h0 e.symm)
          · exact h1
        omega
      · exact h0
    have hlp : p = (((sealL l).set k d).take l.length) := by
      rw [← e, ← hab]
      unfold sealL
      rw [List.append_assoc, List.take_left]
    have hll : l = (sealL l).take l.length := by
      unfold sealL
      rw [List.append_assoc, List.take_left]
    have htp : Lib.itoa (sumL p) = ((sealL l).set k d).drop (l.length + 1) := by
      rw [← e, ← hab]
      unfold sealL
      rw [List.drop_left' (by simp)]
    have htl : Lib.itoa (sumL l) = (sealL l).drop (l.length + 1) := by
      conv => rhs; unfold sealL
      rw [List.drop_left' (by simp)]
    rcases Nat.lt_trichotomy k l.length with h0 | h0 | h0
    · have h1 : ((sealL l).set k d).drop (l.length + 1) = (sealL l).drop (l.length + 1) := by
        rw [List.drop_set, if_pos (by omega)]
      rw [h1, ← htl] at htp
      have h2 := itoa_inj htp
      have h3 : p = l.set k d := by
        rw [hlp, List.take_set, ← hll]
      have h5 : l[k]? = some c := by
        have h6 := hc
        unfold sealL at h6
        rw [List.append_assoc, List.getElem?_append_left h0] at h6
        exact h6
      rw [h3] at h2
      exact sum_set h5 hcd h2
    · have a2 := (seal_mark h4 l.length).2 rfl
      have a1 := (seal_mark hps p.length).2 rfl
      rw [hab, ← h0, m2] at a1
      rw [← h0, hc] at a2
      exact hcd (Option.some.inj (a2.trans a1.symm))
    · have h1 : p = l := by
        rw [hlp, List.take_set, ← hll]
        exact List.set_eq_of_length_le (by omega)
      rw [h1] at e
      have h2 : (sealL l)[k]? = some d := by rw [e, List.getElem?_set_self hk]
      rw [hc] at h2
      exact hcd (Option.some.inj h2)
end Go.Proofs.YtppnmpkefchknaaDoor
