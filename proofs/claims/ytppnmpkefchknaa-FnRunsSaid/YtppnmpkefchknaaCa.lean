/- Contracts of eqIntA2, eqIntA2S, markIntA2S, heldIntA2S: lists of pairs. Lengths at most 2^20. -/
import Derived.Test.YtppnmpkefchknaaSmall
import Derived.Test.YtppnmpkefchknaaCm
namespace Go.Proofs.Ytppnmpkefchknaa
open Go.RowKit
set_option linter.unusedVariables false
set_option linter.unusedSimpArgs false

abbrev tsA2 (A : Option Addr) (n c : Nat) (xs : List RA2) : Thing := ⟨58, 2, A, n, c, J cA2 xs⟩
theorem Try.info58 : (Try.prog.info? 58).map (fun i => (i.zero, i.size, i.bytes)) = some (some (.agg #[.int .i64 0, .int .i64 0]), 2, 16) := by kernel_rfl
theorem atA2 {w : World} {A : Option Addr} {n k : Nat} {xs : List RA2} (h : Rd w 2 A n (J cA2 xs)) (hk : k < n) :
    ∃ b o x, A = some ⟨b, o, none⟩ ∧ b < w.heap.size ∧ Hid (xs[k]? = some x) ∧ w.cell? ⟨b, o + k * 2, none⟩ = some (.int .i64 x.f0) ∧ w.cell? ⟨b, o + k * 2 + 1, none⟩ = some (.int .i64 x.f1) := by
  obtain ⟨b, o, x, hA, hb, hx, hc⟩ := h.atS posA2 cA2_len hk
  exact ⟨b, o, x, hA, hb, hx, hc 0 _ rfl, by rw [Nat.add_assoc]; exact hc 1 _ rfl⟩

def mkA2 (q : Int) : RA2 := ⟨q, q + 1⟩
def mksA2 (q : Int) (n : Nat) : List RA2 := (List.range n).map fun i : Nat => mkA2 (q + (i : Int) * 2)
theorem mksA2_length (q : Int) (n : Nat) : (mksA2 q n).length = n := by simp [mksA2]
theorem mksA2_get {q : Int} {n i : Nat} (h : i < n) : (mksA2 q n)[i]? = some (mkA2 (q + (i : Int) * 2)) := by simp [mksA2, h]

end Go.Proofs.Ytppnmpkefchknaa
