/- Contracts on records of Trap and slices of them: toTrap, toTrapS, eqTrap, eqTrapS, szTrapS. Lengths at most 2^20. -/
import Derived.Test.YtcdocgmikpccoaaTa
import Derived.Test.YtcdocgmikpccoaaSl
import Derived.Deep.RegionHeld3
namespace Go.Proofs.Ytcdocgmikpccoaa
open Go.RowKit
set_option linter.unusedVariables false
set_option linter.unusedSimpArgs false

/-- a record of Trap -/
structure RTrap where
  f0 : Int
  f1 : Int
  f2 : Bool
  f3 : Int
  f4 : Int
def cTrap (x : RTrap) : List Value := [.int .i64 x.f0, .int .i64 x.f1, .bool x.f2, .int .i64 x.f3, .int .i64 x.f4]
abbrev vTrap (x : RTrap) : Value := .agg #[.int .i64 x.f0, .int .i64 x.f1, .bool x.f2, .int .i64 x.f3, .int .i64 x.f4]
theorem cTrap_len (x : RTrap) : (cTrap x).length = 5 := rfl
theorem posTrap : 0 < 5 := by decide
abbrev zTrap : RTrap := ⟨0, 0, false, 0, 0⟩
abbrev tsTrap (A : Option Addr) (n c : Nat) (xs : List RTrap) : Thing := ⟨35, 5, A, n, c, J cTrap xs⟩
theorem Try.info35 : (Try.prog.info? 35).map (fun i => (i.zero, i.size, i.bytes)) = some (some (.agg #[.int .i64 0, .int .i64 0, .bool false, .int .i64 0, .int .i64 0]), 5, 40) := by kernel_rfl
theorem madeTrap (n : Nat) : (madeCells (Value.agg #[.int .i64 0, .int .i64 0, .bool false, .int .i64 0, .int .i64 0]).cells (n * 5)).toList = J cTrap (List.replicate n zTrap) := made_J (f := cTrap) (x := zTrap) cTrap_len posTrap rfl n
theorem atTrap {w : World} {A : Option Addr} {n k : Nat} {xs : List RTrap} (h : Rd w 5 A n (J cTrap xs)) (hk : k < n) :
    ∃ b o x, A = some ⟨b, o, none⟩ ∧ b < w.heap.size ∧ Hid (xs[k]? = some x) ∧ w.cell? ⟨b, o + k * 5, none⟩ = some (.int .i64 x.f0) ∧ w.cell? ⟨b, o + k * 5 + 1, none⟩ = some (.int .i64 x.f1) ∧ w.cell? ⟨b, o + k * 5 + 2, none⟩ = some (.bool x.f2) ∧ w.cell? ⟨b, o + k * 5 + 3, none⟩ = some (.int .i64 x.f3) ∧ w.cell? ⟨b, o + k * 5 + 4, none⟩ = some (.int .i64 x.f4) := by
  obtain ⟨b, o, x, hA, hb, hx, hc⟩ := h.atS posTrap cTrap_len hk
  exact ⟨b, o, x, hA, hb, hx, hc 0 _ rfl, by rw [Nat.add_assoc]; exact hc 1 _ rfl, by rw [Nat.add_assoc]; exact hc 2 _ rfl, by rw [Nat.add_assoc]; exact hc 3 _ rfl, by rw [Nat.add_assoc]; exact hc 4 _ rfl⟩
end Go.Proofs.Ytcdocgmikpccoaa
