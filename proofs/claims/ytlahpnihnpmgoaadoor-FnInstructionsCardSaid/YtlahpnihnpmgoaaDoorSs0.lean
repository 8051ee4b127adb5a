/- Words on lists of strings as cells. No conditions. -/
import Derived.Test.YtlahpnihnpmgoaaDoorSa0
import Derived.Test.YtlahpnihnpmgoaaDoorSl
namespace Go.Proofs.YtlahpnihnpmgoaaDoor
open Go.RowKit
set_option linter.unusedVariables false
set_option linter.unusedSimpArgs false

/-- a list of texts as cells -/
def T (ls : List (List UInt8)) : List Value := ls.map fun l => Value.string ⟨l.toArray⟩
theorem T_length (l : List (List UInt8)) : (T l).length = l.length := by simp [T]
theorem T_append (a b : List (List UInt8)) : T (a ++ b) = T a ++ T b := by simp [T]
theorem T_get {l : List (List UInt8)} {k : Nat} {x : List UInt8} (h : l[k]? = some x) : (T l)[k]? = some (.string ⟨x.toArray⟩) := by simp [T, h]
theorem T_set (l : List (List UInt8)) (k : Nat) (x : List UInt8) : (T l).set k (.string ⟨x.toArray⟩) = T (l.set k x) := by simp [T, List.map_set]
theorem T_one (l : List (List UInt8)) : ∀ u ∈ T l, u.oneCell' = true := by
  intro u hu
  obtain ⟨x, _, rfl⟩ := List.mem_map.1 hu
  rfl
theorem Tryd.info9 : (Tryd.prog.info? 9).map (fun i => (i.zero, i.size, i.bytes)) = some (some (.string ⟨#[]⟩), 1, 16) := by kernel_rfl
abbrev tt (A : Option Addr) (n c : Nat) (xs : List (List UInt8)) : Thing := ⟨9, 1, A, n, c, T xs⟩
theorem Rd.lenT {w : World} {A : Option Addr} {n : Nat} {xs : List (List UInt8)} (h : Rd w 1 A n (T xs)) : xs.length = n := by have := h.1; rw [T_length] at this; omega
theorem Rd.atT {w : World} {A : Option Addr} {n k : Nat} {xs : List (List UInt8)} (h : Rd w 1 A n (T xs)) (hk : k < n) :
    ∃ b o x, A = some ⟨b, o, none⟩ ∧ b < w.heap.size ∧ Hid (xs[k]? = some x) ∧ w.cell? ⟨b, o + k, none⟩ = some (.string ⟨x.toArray⟩) := by
  obtain ⟨b, o, hA, hb, hc⟩ := h.2 (by omega)
  have hl : xs.length = n := h.lenT
  have hx : xs[k]? = some (xs[k]'(by omega)) := List.getElem?_eq_getElem (by omega)
  exact ⟨b, o, _, hA, hb, hx, hc k _ (T_get hx)⟩
theorem ownT_nil (w : World) (B : Nat) : Own w B (tt none 0 0 []) := World.ownsRow_nil _ _ _ _
theorem ownT_cap {w : World} {B : Nat} {A : Option Addr} {n c : Nat} {xs : List (List UInt8)} (h : Own w B (tt A n c xs)) : n ≤ c ∧ c ≤ maxLen := own_cap h
theorem ownT_at {w : World} {B : Nat} {g n c k : Nat} {xs : List (List UInt8)} {x : List UInt8} (h : Own w B (tt (some ⟨g, 0, none⟩) n c xs)) (hx : xs[k]? = some x) (hk : k < n) : w.cell? ⟨g, k, none⟩ = some (.string ⟨x.toArray⟩) := by
  rw [World.ownsRow.cellAt h k (by simpa using hk)]
  exact T_get hx
end Go.Proofs.YtlahpnihnpmgoaaDoor
