/- Contract of UnmapPage in the program. Tables not too large. -/
import Derived.Test.YtaaocnfbbajphaaTe4
namespace Go.Proofs.Ytaaocnfbbajphaa
open Go.RowKit
set_option linter.unusedVariables false
set_option linter.unusedSimpArgs false
attribute [local go_sem ↓] Go.wp_at_zero Go.wp_at_succ

/-- the table in which a page has no frame, or none -/
noncomputable def uR (D : List Int) (E : List (List REntry)) (p : Int) : Option DE := if hasOk D E p then some (unmD D E p.toNat, unmL D E p.toNat) else none
def cut1 (j d : Int) : Int := if d = j then -1 else if j < d then d - 1 else d
theorem cutD_map (D : List Int) (j : Int) : cutD D j = D.map (cut1 j) := rfl
/-- the directories, cut up to k -/
def cutK (D : List Int) (j : Int) (k : Nat) : List Int := (D.take k).map (cut1 j) ++ D.drop k
theorem cutK_len (D : List Int) (j : Int) (k : Nat) : (cutK D j k).length = D.length := by simp [cutK]; omega
theorem cutK_zero (D : List Int) (j : Int) : cutK D j 0 = D := by simp [cutK]
theorem cutK_all (D : List Int) (j : Int) (k : Nat) (h : D.length ≤ k) : cutK D j k = cutD D j := by rw [cutK, List.take_of_length_le h, List.drop_eq_nil_of_le h, List.append_nil]; rfl
theorem cutK_get {D : List Int} {j : Int} {k : Nat} (h : k < D.length) : (cutK D j k)[k]? = D[k]? := by
  have hl : ((D.take k).map (cut1 j)).length = k := by simp; omega
  rw [cutK, List.getElem?_append_right (by omega), hl, Nat.sub_self, List.getElem?_drop]; rfl
theorem cutK_set {D : List Int} {j d : Int} {k : Nat} (h : D[k]? = some d) : (cutK D j k).set k (cut1 j d) = cutK D j (k + 1) := by
  have hk := (List.getElem?_eq_some_iff.1 h).1
  have hl : ((D.take k).map (cut1 j)).length = k := by simp; omega
  rw [cutK, List.set_append_right _ _ (by omega), hl, Nat.sub_self, List.drop_eq_getElem_cons hk, List.set_cons_zero, cutK, List.take_add_one, h, List.map_append, List.append_assoc]
  rfl
theorem cutK_same {D : List Int} {j d : Int} {k : Nat} (h : D[k]? = some d) (hd : cut1 j d = d) : cutK D j k = cutK D j (k + 1) := by
  rw [← cutK_set h, hd]
  have hk := (List.getElem?_eq_some_iff.1 h).1
  exact (set_self_eq (by rw [cutK_get hk]; exact h)).symm
/-- a leaf taken out -/
theorem tv_del {W0 w w' : World} {P : List Thing} {Ad : Option Addr} {cd cl g g3 j : Nat} {D : List Int} {L : List Leaf} (S : Sep W0 w (P ++ tvT g ⟨Ad, cd, D, some ⟨g3, 0, none⟩, cl, L⟩)) (hj : j < L.length) (hg : w.grownBy w' (some g3))
    (ho : Own w' W0.heap.size (tR (some ⟨g3, 0, none⟩) (L.length - 1) cl (L.eraseIdx j))) :
    (∀ i, w'.cell? ⟨g, i, none⟩ = #[.slice Ad D.length cd, .slice (some ⟨g3, 0, none⟩) L.length cl][i]?) ∧ (∀ i, w'.frozen? ⟨g, i, none⟩ = false) ∧
    Sep W0 (w'.setCell ⟨g, 1, none⟩ (.slice (some ⟨g3, 0, none⟩) (L.length - 1) cl)) (P ++ tvT g ⟨Ad, cd, D, some ⟨g3, 0, none⟩, cl, L.eraseIdx j⟩) := by
  have S3 : Sep W0 w (P ++ ([bx 27 2 g [.slice Ad D.length cd, .slice (some ⟨g3, 0, none⟩) L.length cl], ti Ad D.length cd D, tR (some ⟨g3, 0, none⟩) L.length cl L] ++ L.map tL) ++ []) := by
    rw [List.append_nil]; exact S
  have hi : (P ++ ([bx 27 2 g [.slice Ad D.length cd, .slice (some ⟨g3, 0, none⟩) L.length cl], ti Ad D.length cd D, tR (some ⟨g3, 0, none⟩) L.length cl L] ++ L.map tL) ++ [])[P.length + 2]? = some (tR (some ⟨g3, 0, none⟩) L.length cl L) := by
    rw [List.append_nil, List.getElem?_append_right (by omega), Nat.add_sub_cancel_left]; rfl
  have S4 := S3.app (P.length + 2) (t' := tR (some ⟨g3, 0, none⟩) (L.length - 1) cl (L.eraseIdx j)) hi hg (.inl rfl) ho
  have S5 : Sep W0 w' (P ++ ([bx 27 2 g [.slice Ad D.length cd, .slice (some ⟨g3, 0, none⟩) L.length cl], ti Ad D.length cd D, tR (some ⟨g3, 0, none⟩) (L.length - 1) cl (L.eraseIdx j)] ++ L.map tL) ++ []) := by
    rw [List.append_nil, List.set_append_right _ _ (by omega), Nat.add_sub_cancel_left] at S4
    rw [List.append_nil]
    exact S4
  have hbx := S5.ownMid 0 rfl
  have hs := World.ownsRow.stored hbx 1 (.slice (some ⟨g3, 0, none⟩) (L.length - 1) cl)
  have S6 := S5.writeMid 0 rfl hs.2 _ hs.1
  refine ⟨fun i => own_box hbx i, own_free hbx, ?_⟩
  rw [List.append_nil] at S6
  have hL : L.map tL = (L.take j).map tL ++ tL L[j] :: (L.drop (j + 1)).map tL := by
    conv => lhs; rw [← List.take_append_drop j L, List.drop_eq_getElem_cons hj]
    rw [List.map_append, List.map_cons]
  have S7 : Sep W0 (w'.setCell ⟨g, 1, none⟩ (.slice (some ⟨g3, 0, none⟩) (L.length - 1) cl)) ((P ++ [bx 27 2 g [.slice Ad D.length cd, .slice (some ⟨g3, 0, none⟩) (L.length - 1) cl], ti Ad D.length cd D, tR (some ⟨g3, 0, none⟩) (L.length - 1) cl (L.eraseIdx j)] ++ (L.take j).map tL) ++ tL L[j] :: (L.drop (j + 1)).map tL) := by
    have S6' : Sep W0 (w'.setCell ⟨g, 1, none⟩ (.slice (some ⟨g3, 0, none⟩) (L.length - 1) cl)) (P ++ ([bx 27 2 g [.slice Ad D.length cd, .slice (some ⟨g3, 0, none⟩) (L.length - 1) cl], ti Ad D.length cd D, tR (some ⟨g3, 0, none⟩) (L.length - 1) cl (L.eraseIdx j)] ++ L.map tL)) := S6
    rw [hL] at S6'
    simp only [List.append_assoc] at S6' ⊢
    exact S6'
  have S8 := Sep.drop1 S7
  rw [tvT_rows, rowsT]
  have e : (L.eraseIdx j).length = L.length - 1 := by rw [List.length_eraseIdx, if_pos hj]
  have e2 : (L.eraseIdx j).map tL = (L.take j).map tL ++ (L.drop (j + 1)).map tL := by rw [List.eraseIdx_eq_take_drop_succ, List.map_append]
  dsimp only
  rw [e, e2]
  simp only [List.append_assoc, List.cons_append, List.nil_append] at S8 ⊢
  exact S8
theorem tv_delE (Ad : Option Addr) (cd : Nat) (D : List Int) (Al : Option Addr) (cl : Nat) (L : List Leaf) (j : Nat) : (⟨Ad, cd, D, Al, cl, L.eraseIdx j⟩ : Tab).E = (⟨Ad, cd, D, Al, cl, L⟩ : Tab).E.eraseIdx j := by
  show (L.eraseIdx j).map Leaf.es = (L.map Leaf.es).eraseIdx j
  rw [List.eraseIdx_eq_take_drop_succ, List.eraseIdx_eq_take_drop_succ, List.map_append, List.map_take, List.map_drop]

theorem unm_good {D : List Int} {E : List (List REntry)} {p : Int} {T : Tab} (hD : T.D = oD (uR D E p)) (hE : T.E = oE (uR D E p)) (h : uR D E p = none) : Bd T := by
  rw [h] at hD hE; exact Bd.nil_.of_eq hD hE
theorem unm_bd {D : List Int} {E : List (List REntry)} {q : Nat} (hg : Good D E) (hq : q < 16) (hd : dirOf D q ≠ -1) : (unmD D E q).length = 4 ∧ (unmL D E q).length ≤ 4 ∧ ∀ es ∈ unmL D E q, es.length = 4 := by
  have h1 : (mapD D E q).length = 4 := by rw [mapD, if_neg hd]; exact hg.len
  have h2 : (mapL D E q noE).length ≤ 4 := by rw [mapL, if_neg hd, List.length_set]; exact hg.len4
  obtain ⟨j, es, e, hj, hes, hlf, _, _, _⟩ := hg.leafAt hq hd
  have h3 : ∀ x ∈ mapL D E q noE, x.length = 4 := by
    intro x hx
    rw [mapL, if_neg hd, hj, Int.toNat_natCast, hes] at hx
    rcases List.mem_or_eq_of_mem_set hx with h | rfl
    · exact leafB_len (hg.leaf x h)
    · simpa using leafB_len hlf
  refine ⟨?_, ?_, fun x hx => ?_⟩
  · unfold unmD; split
    · exact h1
    · rw [cutD_len]; exact h1
  · unfold unmL; split
    · exact h2
    · exact Nat.le_trans (List.length_eraseIdx_le ..) h2
  · unfold unmL at hx; split at hx
    · exact h3 x hx
    · exact h3 x (List.mem_of_mem_eraseIdx hx)
theorem bd_four {T : Tab} (h1 : T.D.length = 4) (h2 : T.E.length ≤ 4) (h3 : ∀ es ∈ T.E, es.length = 4) : Bd T := by
  have hs := sum_four T.E h3
  have hl := Tab.E_len T
  exact ⟨by omega, by omega, leaf_E.2 (fun es hes => by have := h3 es hes; omega), by rw [sumL_E]; omega⟩
theorem uR_bd {D : List Int} {E : List (List REntry)} {p : Int} {T : Tab} (hD : T.D = oD (uR D E p)) (hE : T.E = oE (uR D E p)) : Bd T := by
  unfold uR at hD hE
  split at hD
  · rename_i h
    rw [if_pos h] at hE
    obtain ⟨hg, q, rfl, hq, hf⟩ := hasOk_yes h
    obtain ⟨h1, h2, h3⟩ := unm_bd hg hq (fr_dir hf)
    simp only [oD, oE, Option.map_some, Option.getD_some, Int.toNat_natCast] at hD hE
    exact bd_four (by rw [hD]; exact h1) (by rw [hE]; exact h2) (by rw [hE]; exact h3)
  · rename_i h
    rw [if_neg h] at hE
    exact Bd.nil_.of_eq hD hE
end Go.Proofs.Ytaaocnfbbajphaa
