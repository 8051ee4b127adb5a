/- Contracts of eqEntrySS, eqTable, markEntrySS, markTable, heldEntrySS, heldTable. Lengths at most 2^20. -/
import Derived.Test.YtaaocnfbbajphaaTt
import Derived.Deep.RegionWith
namespace Go.Proofs.Ytaaocnfbbajphaa
open Go.RowKit
set_option linter.unusedVariables false
set_option linter.unusedSimpArgs false

theorem es_at {ls ls' : List Leaf} {k : Nat} {x x' : Leaf} (h : ls.map Leaf.es = ls'.map Leaf.es) (hx : ls[k]? = some x) (hx' : ls'[k]? = some x') : x'.es = x.es := by
  have h1 : (ls.map Leaf.es)[k]? = some x.es := by rw [List.getElem?_map, hx]; rfl
  have h2 : (ls'.map Leaf.es)[k]? = some x'.es := by rw [List.getElem?_map, hx']; rfl
  rw [h, h2] at h1
  exact Option.some.inj h1

/-- how many entries the leaves have -/
def sumL (ls : List Leaf) : Nat := (ls.map fun l => l.es.length).sum
theorem sumL_snoc (ls : List Leaf) (x : Leaf) : sumL (ls ++ [x]) = sumL ls + x.es.length := by simp [sumL]
theorem sumL_take : ∀ (ls : List Leaf) (k : Nat), sumL (ls.take k) ≤ sumL ls
  | [], k => by simp
  | x :: ls, 0 => by simp [sumL]
  | x :: ls, k + 1 => by have := sumL_take ls k; simp [sumL] at this ⊢; omega
/-- the leaves marked from m on -/
def mkLs (m : Int) : List Leaf → List Leaf
  | [] => []
  | l :: ls => ⟨l.A, l.c, mksEntry m l.es.length⟩ :: mkLs (m + (l.es.length : Int) * 2) ls
def nxL (m : Int) (ls : List Leaf) : Int := m + (sumL ls : Int) * 2
theorem mkLs_snoc : ∀ (m : Int) (ls : List Leaf) (x : Leaf), mkLs m (ls ++ [x]) = mkLs m ls ++ [⟨x.A, x.c, mksEntry (nxL m ls) x.es.length⟩]
  | m, [], x => by simp [mkLs, nxL, sumL]
  | m, l :: ls, x => by
    have e : nxL (m + (l.es.length : Int) * 2) ls = nxL m (l :: ls) := by simp [nxL, sumL]; omega
    rw [List.cons_append, mkLs, mkLs_snoc, e, mkLs, List.cons_append]
theorem mkLs_len : ∀ (m : Int) (ls : List Leaf), (mkLs m ls).length = ls.length
  | m, [] => rfl
  | m, l :: ls => by simp [mkLs, mkLs_len]
theorem mkLs_cells : ∀ (m : Int) (ls : List Leaf), (mkLs m ls).map Leaf.cell = ls.map Leaf.cell
  | m, [] => rfl
  | m, l :: ls => by simp [mkLs, mkLs_cells, Leaf.cell, mksEntry_length]
theorem mkLs_get {m : Int} {ls : List Leaf} {k : Nat} {x : Leaf} (hx : ls[k]? = some x) : (mkLs m ls)[k]? = some ⟨x.A, x.c, mksEntry (nxL m (ls.take k)) x.es.length⟩ := by
  have hk := (List.getElem?_eq_some_iff.1 hx).1
  have h1 : ls = ls.take k ++ [x] ++ ls.drop (k + 1) := by
    have := List.take_append_drop (k + 1) ls
    rw [List.take_add_one, hx] at this
    exact this.symm
  have h2 : ∀ (a b : List Leaf) (m : Int), ∃ c, mkLs m (a ++ b) = mkLs m a ++ c := by
    intro a b
    induction a with
    | nil => intro m; exact ⟨mkLs m b, rfl⟩
    | cons y a ih => intro m; obtain ⟨c, hc⟩ := ih (m + (y.es.length : Int) * 2); exact ⟨c, by rw [List.cons_append, mkLs, hc, mkLs, List.cons_append]⟩
  obtain ⟨c, hc⟩ := h2 (ls.take k ++ [x]) (ls.drop (k + 1)) m
  rw [← h1, mkLs_snoc] at hc
  have hl : (mkLs m (ls.take k)).length = k := by rw [mkLs_len]; simp; omega
  rw [hc, List.append_assoc, List.getElem?_append_right (by omega), hl, Nat.sub_self]; rfl

/-- the slice of the leaves, and the leaves -/
def rowsT (A : Option Addr) (c : Nat) (L : List Leaf) : List Thing := tR A L.length c L :: L.map tL
theorem things_rows (T : Tab) : T.things = ti T.Ad T.D.length T.cd T.D :: rowsT T.Al T.cl T.L := rfl
theorem cells_set {L : List Leaf} {k : Nat} {x : Leaf} {es' : List REntry} (hx : L[k]? = some x) (hl : es'.length = x.es.length) : (L.set k ⟨x.A, x.c, es'⟩).map Leaf.cell = L.map Leaf.cell := by
  rw [List.map_set]
  refine set_self_eq ?_
  rw [List.getElem?_map, hx]
  simp [Leaf.cell, hl]
theorem rows_write {W0 w w' : World} {P Q : List Thing} {A : Option Addr} {c : Nat} {L : List Leaf} (S : Sep W0 w (P ++ rowsT A c L ++ Q)) (k : Nat) {x : Leaf} (hx : L[k]? = some x) (hg : w.grownBy w' (blk x.A)) (es' : List REntry)
    (hl : es'.length = x.es.length) (ho : Own w' W0.heap.size (tsEntry x.A x.es.length x.c es')) : Sep W0 w' (P ++ rowsT A c (L.set k ⟨x.A, x.c, es'⟩) ++ Q) := by
  have h1 : (rowsT A c L)[k + 1]? = some (tL x) := by simp [rowsT, hx]
  have := S.writeMid (k + 1) h1 hg (J cEntry es') ho
  have e : (rowsT A c L).set (k + 1) { tL x with xs := J cEntry es' } = rowsT A c (L.set k ⟨x.A, x.c, es'⟩) := by
    unfold rowsT
    rw [List.set_cons_succ, List.length_set]
    have e1 : tR A L.length c (L.set k ⟨x.A, x.c, es'⟩) = tR A L.length c L := by unfold tR; rw [cells_set hx hl]
    rw [e1, List.map_set]
    show _ :: (L.map tL).set k ⟨67, 2, x.A, x.es.length, x.c, J cEntry es'⟩ = _ :: (L.map tL).set k ⟨67, 2, x.A, es'.length, x.c, J cEntry es'⟩
    rw [hl]
  rw [e] at this
  exact this

/-- a table marked from m on -/
def mkT (m : Int) (T : Tab) : Tab := ⟨T.Ad, T.cd, marks m T.D.length, T.Al, T.cl, mkLs (m + T.D.length) T.L⟩
def nxT (m : Int) (T : Tab) : Int := nxL (m + T.D.length) T.L
end Go.Proofs.Ytaaocnfbbajphaa
