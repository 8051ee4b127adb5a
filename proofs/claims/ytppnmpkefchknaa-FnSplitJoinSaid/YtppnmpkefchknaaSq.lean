/- Plain facts on texts: the parts of a text joined are the text; the order of texts has no two ways; contracts with their results as letters. No conditions. -/
import Derived.Test.YtppnmpkefchknaaSp
import Derived.Test.YtppnmpkefchknaaSj
import Derived.Test.YtppnmpkefchknaaSa
namespace Go.Proofs.Ytppnmpkefchknaa
open Go.RowKit
set_option linter.unusedVariables false
set_option linter.unusedSimpArgs false

theorem snoc_ind {α : Type} {p : List α → Prop} (h0 : p []) (h1 : ∀ l x, p l → p (l ++ [x])) : ∀ l, p l := by
  intro l
  have : ∀ n, ∀ l : List α, l.length = n → p l := by
    intro n
    induction n with
    | zero => intro l hl; obtain rfl := List.length_eq_zero_iff.1 hl; exact h0
    | succ n ih =>
      intro l hl
      rcases List.eq_nil_or_concat l with rfl | ⟨m, x, rfl⟩
      · simp at hl
      · rw [List.concat_eq_append] at hl ⊢
        exact h1 _ _ (ih m (by simpa using hl))
  exact this _ l rfl
theorem splitL_snoc (b : UInt8) (l : List UInt8) (c : UInt8) : splitL b (l ++ [c]) = if c = b then splitL b l ++ [[]] else (spF b l).1 ++ [(spF b l).2 ++ [c]] := by
  unfold splitL
  rw [spF_snoc]
  unfold spS
  split <;> simp
theorem split_ne (b : UInt8) (l : List UInt8) : splitL b l ≠ [] := by unfold splitL; simp
theorem split_join (b : UInt8) : ∀ l, Lib.join (splitL b l) [b] = l := by
  refine snoc_ind ?_ ?_
  · simp [splitL, spF, Lib.join_one]
  · intro l c ih
    rw [splitL_snoc]
    split
    · rename_i h
      subst h
      rw [join_snoc, if_neg (split_ne _ _), ih]
      simp
    · unfold splitL at ih
      rw [join_snoc] at ih ⊢
      split
      · rename_i h
        rw [if_pos h] at ih
        rw [ih]
      · rename_i h
        rw [if_neg h] at ih
        rw [← List.append_assoc, ih]
theorem stB_app (b : UInt8) (l m : List UInt8) : stB b (l ++ m) = (stB b l || stB b m) := by simp [stB]
theorem spF_clean (b : UInt8) : ∀ l, (spF b l).1.any (stB b) = false ∧ stB b (spF b l).2 = false := by
  refine snoc_ind ?_ ?_
  · exact ⟨rfl, rfl⟩
  · intro l c ⟨h1, h2⟩
    rw [spF_snoc]
    unfold spS
    split
    · exact ⟨by rw [List.any_append, h1]; simp [h2], rfl⟩
    · rename_i h
      refine ⟨h1, ?_⟩
      rw [stB_app, h2]
      simp [stB, h]
theorem split_clean (b : UInt8) (l : List UInt8) : (splitL b l).any (stB b) = false := by
  obtain ⟨h1, h2⟩ := spF_clean b l
  unfold splitL
  rw [List.any_append, h1]
  simp [h2]
theorem lens_app (a b : List (List UInt8)) : Lib.lens (a ++ b) = Lib.lens a + Lib.lens b := by simp [Lib.lens]
theorem split_lens (b : UInt8) : ∀ l, Lib.lens (splitL b l) + (splitL b l).length = l.length + 1 := by
  refine snoc_ind ?_ ?_
  · simp [splitL, spF, Lib.lens]
  · intro l c ih
    rw [splitL_snoc]
    split
    · rw [lens_app, List.length_append]
      simp [Lib.lens] at ih ⊢
      omega
    · unfold splitL at ih
      rw [lens_app, List.length_append] at ih ⊢
      simp [Lib.lens] at ih ⊢
      omega
theorem split_ok {l m : List UInt8} (h : splOk l m = true) : joiOk (splR l m) m = true ∧ joiL (splR l m) m = l := by
  simp only [splOk, Bool.and_eq_true, decide_eq_true_eq] at h
  obtain ⟨b, rfl⟩ : ∃ b, m = [b] := by
    match m, h.2 with
    | [b], _ => exact ⟨b, rfl⟩
  have h1 := split_lens b l
  exact ⟨joiOk_yes (split_ne b l) (split_clean b l) (by show Lib.lens (splitL b l) + (splitL b l).length ≤ 4001; omega), split_join b l⟩
theorem lens_split {l m : List UInt8} : Lib.lens (splR l m) ≤ l.length := by
  have h1 := split_lens (m.headD 0) l
  have h2 : 1 ≤ (splitL (m.headD 0) l).length := by unfold splitL; simp
  show Lib.lens (splitL (m.headD 0) l) ≤ _
  omega
theorem less_no : ∀ (x y : List UInt8), Op.bytesLess x y = true → Op.bytesLess y x = true → False
  | [], [], h, _ => by simp [Op.bytesLess] at h
  | _ :: _, [], h, _ => by simp [Op.bytesLess] at h
  | [], _ :: _, _, h => by simp [Op.bytesLess] at h
  | a :: x, b :: y, h, k => by
    simp only [Op.bytesLess, Bool.or_eq_true, Bool.and_eq_true, decide_eq_true_eq, beq_iff_eq] at h k
    have e1 : ∀ {a b : UInt8}, a < b → a.toNat < b.toNat := fun h => h
    rcases h with h | ⟨rfl, h⟩ <;> rcases k with k | ⟨e, k⟩
    · have := e1 h; have := e1 k; omega
    · subst e; have := e1 h; omega
    · have := e1 k; omega
    · exact less_no x y h k

section
variable {l m : List UInt8} {b : Bool} {L : List (List UInt8)} {k : Nat}
theorem i_SplitString_b (hb : splOk l m = b) (hL : selT b (splR l m) = L) (hk : L.length = k) (w : World) (hn : l.length ≤ 1048576) (hm : m.length ≤ 1048576) :
    Calls Try.prog 8 #[.string ⟨l.toArray⟩, .string ⟨m.toArray⟩] w fun e w' => ∃ A c, e = .returned (.tuple #[.slice A k c, .bool b]) ∧ Own w' w.heap.size (tt A k c L) ∧ Below w.heap.size w w' := by
  subst hk; subst hL; subst hb; exact i_SplitString_any l m w hn hm
theorem i_JoinStrings_b {xs : List (List UInt8)} {t : List UInt8} (hb : joiOk xs m = b) (ht : selB b (joiL xs m) = ⟨t.toArray⟩) (A : Option Addr) (n c : Nat) (w : World) (hr : Rd w 1 A n (T xs)) (hn : n ≤ 1048576) (hL : Lib.lens xs ≤ 1048576) (hnc : n ≤ c) (hm : m.length ≤ 1048576) :
    Calls Try.prog 10 #[.slice A n c, .string ⟨m.toArray⟩] w fun e w' => e = .returned (.tuple #[.string ⟨t.toArray⟩, .bool b]) ∧ Below w.heap.size w w' := by
  rw [← ht]; subst hb; exact i_JoinStrings_any A n c xs m w hr hn hL hnc hm
theorem s_JoinStrings_b {xs : List (List UInt8)} {t : List UInt8} (hb : joiOk xs m = b) (ht : selB b (joiL xs m) = ⟨t.toArray⟩) (A : Option Addr) (n c : Nat) (w : World) (hr : Rd w 1 A n (T xs)) (hn : n ≤ 1048576) (hL : Lib.lens xs ≤ 1048576) (hm : m.length ≤ 1048576) :
    Calls Try.prog 11 #[.slice A n c, .string ⟨m.toArray⟩] w fun e w' => e = .returned (.tuple #[.string ⟨t.toArray⟩, .bool b]) ∧ Below w.heap.size w w' := by
  rw [← ht]; subst hb; exact s_JoinStrings_any A n c xs m w hr hn hL hm
theorem i_LessString_b (hb : Op.bytesLess l m = b) (w : World) (hn : l.length ≤ 1048576) (hm : m.length ≤ 1048576) :
    Calls Try.prog 13 #[.string ⟨l.toArray⟩, .string ⟨m.toArray⟩] w fun e w' => e = .returned (.bool b) ∧ Below w.heap.size w w' := by subst hb; exact i_LessString_any l m w hn hm
theorem s_LessString_b (hb : Op.bytesLess l m = b) (w : World) (hn : l.length ≤ 1048576) (hm : m.length ≤ 1048576) :
    Calls Try.prog 14 #[.string ⟨l.toArray⟩, .string ⟨m.toArray⟩] w fun e w' => e = .returned (.bool b) ∧ Below w.heap.size w w' := by subst hb; exact s_LessString_any l m w hn hm
theorem selB_mk (b : Bool) (l : List UInt8) : ∃ t : List UInt8, selB b l = ⟨t.toArray⟩ ∧ (b = true → t = l) := by
  cases b
  · exact ⟨[], rfl, fun h => by cases h⟩
  · exact ⟨l, rfl, fun _ => rfl⟩
end
end Go.Proofs.Ytppnmpkefchknaa
