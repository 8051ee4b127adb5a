/- Appends and stores to a table in a variable, besides the reader of choices. -/
import Derived.Test.YtaaocnfbbajphaaCq4
namespace Go.Proofs.Ytaaocnfbbajphaa
open Go.RowKit
set_option linter.unusedVariables false
set_option linter.unusedSimpArgs false

/-- a directory more -/
theorem SepC.dirApp {W0 w w' : World} {g k gT c' : Nat} {P : List Thing} {T : Tab} {A' : Option Addr} {x : Int} (S : SepC W0 w g k (P ++ tvT gT T)) (hg : w.grownBy w' (blk T.Ad)) (hat : blk A' = blk T.Ad ∨ blk A' = some w.heap.size)
    (ho : Own w' W0.heap.size (ti A' (T.D.length + 1) c' (T.D ++ [x]))) :
    (∀ i, w'.cell? ⟨gT, i, none⟩ = #[.slice T.Ad T.D.length T.cd, .slice T.Al T.L.length T.cl][i]?) ∧ (∀ i, w'.frozen? ⟨gT, i, none⟩ = false) ∧
    SepC W0 (w'.setCell ⟨gT, 0, none⟩ (.slice A' (T.D.length + 1) c')) g k (P ++ tvT gT ⟨A', c', T.D ++ [x], T.Al, T.cl, T.L⟩) := by
  have hi : (P ++ tvT gT T)[P.length + 1]? = some (ti T.Ad T.D.length T.cd T.D) := by
    rw [List.getElem?_append_right (by omega), Nat.add_sub_cancel_left]; rfl
  have S2 := S.app (P.length + 1) hi hg hat ho
  rw [List.set_append_right _ _ (by omega), Nat.add_sub_cancel_left] at S2
  have hb : (P ++ (tvT gT T).set 1 (ti A' (T.D.length + 1) c' (T.D ++ [x])))[P.length]? = some (bx 27 2 gT [.slice T.Ad T.D.length T.cd, .slice T.Al T.L.length T.cl]) := by
    rw [List.getElem?_append_right (by omega), Nat.sub_self]; rfl
  have hbx := S2.sep.own _ _ hb
  have hs := World.ownsRow.stored hbx 0 (.slice A' (T.D.length + 1) c')
  refine ⟨fun i => own_box hbx i, own_free hbx, ?_⟩
  have S3 := S2.write P.length hb hs.2 _ hs.1
  rw [List.set_append_right _ _ (by omega), Nat.sub_self] at S3
  have e : (T.D ++ [x]).length = T.D.length + 1 := by simp
  rw [tvT_rows]
  dsimp only
  rw [e]
  exact S3
end Go.Proofs.Ytaaocnfbbajphaa
