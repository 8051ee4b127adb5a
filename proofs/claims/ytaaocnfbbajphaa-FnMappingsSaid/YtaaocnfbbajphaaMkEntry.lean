/- Contracts of markEntryS, heldEntryS. Lengths at most 2^20. -/
import Derived.Test.YtaaocnfbbajphaaStEntry
namespace Go.Proofs.Ytaaocnfbbajphaa
open Go.RowKit
set_option linter.unusedVariables false
set_option linter.unusedSimpArgs false

/-- the record that is laid at the number q -/
def mkEntry (q : Int) : REntry := ⟨(q), ((q + 1) % 3 == 0)⟩
def mksEntry (q : Int) (n : Nat) : List REntry := (List.range n).map fun i : Nat => mkEntry (q + (i : Int) * 2)
theorem mksEntry_length (q : Int) (n : Nat) : (mksEntry q n).length = n := by simp [mksEntry]
theorem mksEntry_get {q : Int} {n i : Nat} (h : i < n) : (mksEntry q n)[i]? = some (mkEntry (q + (i : Int) * 2)) := by simp [mksEntry, h]

end Go.Proofs.Ytaaocnfbbajphaa
