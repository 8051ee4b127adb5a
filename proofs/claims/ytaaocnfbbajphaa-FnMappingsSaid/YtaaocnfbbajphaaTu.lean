/- Contracts of toEntrySS, toTable, eqEntrySS, eqTable. Lengths at most 2^20. -/
import Derived.Test.YtaaocnfbbajphaaTt
import Derived.Deep.RegionWith
namespace Go.Proofs.Ytaaocnfbbajphaa
open Go.RowKit
set_option linter.unusedVariables false
set_option linter.unusedSimpArgs false

theorem Try.info71 : (Try.prog.info? 71).map (fun i => (i.zero, i.size, i.bytes)) = some (some (.slice none 0 0), 1, 24) := by kernel_rfl
theorem madeRows (n : Nat) : (madeCells (Value.slice none 0 0).cells (n * 1)).toList = List.replicate n (.slice none 0 0) := by
  show (madeCells #[Value.slice none 0 0] (n * 1)).toList = _
  rw [toList_madeCells_one, Nat.mul_one]
abbrev tRv (A : Option Addr) (n c : Nat) (xs : List Value) : Thing := ⟨71, 1, A, n, c, xs⟩
theorem rows_fill (ls' : List Leaf) (l : Leaf) (n k : Nat) (hk : ls'.length = k) (h : k < n) :
    (ls'.map Leaf.cell ++ List.replicate (n - k) (Value.slice none 0 0)).set k l.cell = (ls' ++ [l]).map Leaf.cell ++ List.replicate (n - (k + 1)) (.slice none 0 0) := by
  subst hk
  have h2 : n - ls'.length = (n - (ls'.length + 1)) + 1 := by omega
  rw [List.set_append, if_neg (by simp), List.length_map, Nat.sub_self, h2, List.replicate_succ, List.set_cons_zero, List.map_append, List.append_assoc]
  rfl
theorem rows_hole (ls' : List Leaf) (n k : Nat) (hk : ls'.length = k) (h : k < n) : (ls'.map Leaf.cell ++ List.replicate (n - k) (Value.slice none 0 0))[k]? = some (.slice none 0 0) := by
  subst hk
  rw [List.getElem?_append_right (by simp), List.length_map, Nat.sub_self, List.getElem?_replicate, if_pos (by omega)]
theorem map_take_snoc {ls ls' : List Leaf} {k : Nat} {l l' : Leaf} (h : ls'.map Leaf.es = (ls.take k).map Leaf.es) (hl : ls[k]? = some l) (he : l'.es = l.es) : (ls' ++ [l']).map Leaf.es = (ls.take (k + 1)).map Leaf.es := by
  rw [List.map_append, h, List.take_add_one, hl, List.map_append]; simp [he]

end Go.Proofs.Ytaaocnfbbajphaa
