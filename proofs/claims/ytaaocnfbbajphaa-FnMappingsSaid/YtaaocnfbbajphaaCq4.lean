/- Small tables; a table copied into a variable, besides the reader of choices. -/
import Derived.Test.YtaaocnfbbajphaaCp4
namespace Go.Proofs.Ytaaocnfbbajphaa
open Go.RowKit
set_option linter.unusedVariables false
set_option linter.unusedSimpArgs false

/-- a small table -/
structure Sm (D : List Int) (E : List (List REntry)) : Prop where
  d4 : 4 ≤ D.length
  d5 : D.length ≤ 5
  e5 : E.length ≤ 5
  l4 : ∀ es ∈ E, es.length = 4
theorem Sm.good {D : List Int} {E : List (List REntry)} (h : Good D E) : Sm D E :=
  ⟨by have := h.len; omega, by have := h.len; omega, by have := h.len4; omega, fun es hes => leafB_len (h.leaf es hes)⟩
theorem Sm.bd {T : Tab} (h : Sm T.D T.E) : Bd T := by
  have hs := sum_four T.E h.l4
  have hl := Tab.E_len T
  have h5 := h.e5
  have hd := h.d5
  exact ⟨by omega, by omega, leaf_E.2 (fun es hes => by have := h.l4 es hes; omega), by rw [sumL_E]; omega⟩
theorem mpR_sm {x y : DE} {p f : Int} {wb : Bool} (h : mpR x p f wb = some y) : Sm y.1 y.2 := by
  unfold mpR at h
  split at h
  · rename_i hg
    exact Sm.good (stepM_good (goodB_iff.1 hg) h)
  · cases h
theorem uR_sm {D : List Int} {E : List (List REntry)} {p : Int} {y : DE} (h : uR D E p = some y) : Sm y.1 y.2 := by
  unfold uR at h
  split at h
  · rename_i hk
    obtain ⟨hg, q, rfl, hq, hf⟩ := hasOk_yes hk
    obtain rfl := Option.some.inj h
    obtain ⟨h1, h2, h3⟩ := unm_bd hg hq (fr_dir hf)
    rw [Int.toNat_natCast]
    exact ⟨by simp only; omega, by simp only; omega, by simp only; omega, h3⟩
  · cases h
theorem Sm.eq {T : Tab} {r : Option DE} (hD : T.D = oD r) (hE : T.E = oE r) (hr : r.isSome = true) (h : ∀ y, r = some y → Sm y.1 y.2) : Sm T.D T.E := by
  cases r with
  | none => cases hr
  | some y => rw [hD, hE]; exact h y rfl

theorem SepC.dropMid {W0 w : World} {g k : Nat} {P M Q : List Thing} (S : SepC W0 w g k (P ++ M ++ Q)) : SepC W0 w g k (P ++ Q) :=
  S.sub (Sep.dropMid S.sep) fun t ht => by
    rcases List.mem_append.1 ht with h | h
    · exact List.mem_append_left _ (List.mem_append_left _ h)
    · exact List.mem_append_right _ h
theorem SepC.take {W0 w : World} {g k : Nat} {P M : List Thing} (S : SepC W0 w g k (P ++ M)) : SepC W0 w g k P := by
  have S' : SepC W0 w g k (P ++ M ++ []) := by rw [List.append_nil]; exact S
  simpa using S'.dropMid
/-- two cells written into a variable of the call's own -/
theorem SepC.put {W0 w : World} {g k gT : Nat} {P Q : List Thing} {e : TypeId} {a0 a1 : Value} (S : SepC W0 w g k (P ++ bx e 2 gT [a0, a1] :: Q)) (u v : Value) :
    SepC W0 ((w.setCell ⟨gT, 0, none⟩ u).setCell ⟨gT, 1, none⟩ v) g k (P ++ bx e 2 gT [u, v] :: Q) := by
  have hi : (P ++ bx e 2 gT [a0, a1] :: Q)[P.length]? = some (bx e 2 gT [a0, a1]) := by
    rw [List.getElem?_append_right (Nat.le_refl _), Nat.sub_self]; rfl
  have ho := S.sep.own _ _ hi
  have P3 := own_putAll [u, v] _ _ 0 ho
  have S8 := S.sep.write P.length hi P3.2 _ P3.1
  rw [List.set_append_right _ _ (Nat.le_refl _), Nat.sub_self] at S8
  have hne : (some gT : Option Nat) ≠ some g := S.far _ (List.mem_append_right _ (List.mem_cons_self ..))
  refine ⟨S8, S.cu.grown P3.2 hne (fun b hb => blk_own ho b hb), fun t ht => ?_⟩
  rcases List.mem_append.1 ht with h | h
  · exact S.far t (List.mem_append_left _ h)
  · rcases List.mem_cons.1 h with rfl | h
    · exact hne
    · exact S.far t (List.mem_append_right _ (List.mem_cons_of_mem _ h))
/-- a table of the variable g6 copied into the variable gT -/
theorem SepC.move {W0 w : World} {g k gT g6 : Nat} {P : List Thing} {T T6 : Tab} (S : SepC W0 w g k (P ++ tvT gT T ++ tvT g6 T6)) :
    SepC W0 ((w.setCell ⟨gT, 0, none⟩ (.slice T6.Ad T6.D.length T6.cd)).setCell ⟨gT, 1, none⟩ (.slice T6.Al T6.L.length T6.cl)) g k (P ++ tvT gT T6) := by
  have S1 : SepC W0 w g k (P ++ bx 27 2 gT [.slice T.Ad T.D.length T.cd, .slice T.Al T.L.length T.cl] :: (T.things ++ tvT g6 T6)) := by
    rw [List.append_assoc] at S; exact S
  have S2 := S1.put (.slice T6.Ad T6.D.length T6.cd) (.slice T6.Al T6.L.length T6.cl)
  have S3 : SepC W0 ((w.setCell ⟨gT, 0, none⟩ (.slice T6.Ad T6.D.length T6.cd)).setCell ⟨gT, 1, none⟩ (.slice T6.Al T6.L.length T6.cl)) g k ((P ++ [bx 27 2 gT [.slice T6.Ad T6.D.length T6.cd, .slice T6.Al T6.L.length T6.cl]]) ++ (T.things ++ [bx 27 2 g6 [.slice T6.Ad T6.D.length T6.cd, .slice T6.Al T6.L.length T6.cl]]) ++ T6.things) := by
    simp only [List.append_assoc, List.cons_append, List.nil_append] at S2 ⊢
    exact S2
  have S4 := S3.dropMid
  rw [List.append_assoc] at S4
  exact S4
theorem SepC.perm {W0 w : World} {g k : Nat} {L M : List Thing} (S : SepC W0 w g k L) (h : L.Perm M) : SepC W0 w g k M := S.sub (S.sep.perm h) fun t ht => h.mem_iff.2 ht
theorem SepC.tv_in {W0 w : World} {g k gT : Nat} {P : List Thing} {T : Tab} (S : SepC W0 w g k (P ++ T.things ++ [bx 27 2 gT [.slice T.Ad T.D.length T.cd, .slice T.Al T.L.length T.cl]])) : SepC W0 w g k (P ++ tvT gT T) := by
  refine S.perm ?_
  rw [List.append_assoc]
  exact List.Perm.append_left P List.perm_append_comm
end Go.Proofs.Ytaaocnfbbajphaa
