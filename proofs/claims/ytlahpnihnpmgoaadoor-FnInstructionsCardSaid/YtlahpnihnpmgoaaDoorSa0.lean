/- Contracts of the checksum of a text, in the program and in the reference. Lengths at most 2^20. -/
import Derived.Test.YtlahpnihnpmgoaaDoorRows
import Derived.Test.YtlahpnihnpmgoaaDoorMem
namespace Go.Proofs.YtlahpnihnpmgoaaDoor
open Go.RowKit
set_option linter.unusedVariables false
set_option linter.unusedSimpArgs false

theorem str_at (l : List UInt8) {k : Nat} {b : UInt8} (h : l[k]? = some b) (w : World) : (Instr.index 9 (.string ⟨l.toArray⟩) (.int .i64 (k : Int))).run Tryd.prog w = .ok (.int .u8 (b.toNat : Int)) w := by
  obtain ⟨hk, hb⟩ := List.getElem?_eq_some_iff.1 h
  rw [run_index_string (P := Tryd.prog) (w := w) 9 ⟨l.toArray⟩ .i64 (k : Int) Tryd.underlying9]
  have : (0 : Int) ≤ (k : Int) ∧ (k : Int) < ((⟨l.toArray⟩ : ByteArray).size : Int) := ⟨by omega, by show (k : Int) < ((l.toArray.size : Nat) : Int); simp; exact hk⟩
  rw [dif_pos this]
  subst hb
  rfl
theorem take_snocA {α : Type} {l : List α} {k : Nat} {x : α} (h : l[k]? = some x) : l.take (k + 1) = l.take k ++ [x] := by
  rw [List.take_add_one, h]; rfl

/-- a step of the checksum -/
def sumS (h : Int) (c : UInt8) : Int := (41 * h + (c.toNat : Int) + 1) % 999979
/-- the checksum of a list of bytes -/
def sumL (l : List UInt8) : Int := l.foldl sumS 7
theorem sumL_snoc (l : List UInt8) (c : UInt8) : sumL (l ++ [c]) = sumS (sumL l) c := by simp [sumL]
theorem sumS_bd (h : Int) (c : UInt8) : 0 ≤ sumS h c ∧ sumS h c < 999979 := by unfold sumS; omega
theorem sumL_bd (l : List UInt8) : 0 ≤ sumL l ∧ sumL l < 999979 := by
  rcases List.eq_nil_or_concat l with rfl | ⟨m, c, rfl⟩
  · simp [sumL]
  · rw [List.concat_eq_append, sumL_snoc]; exact sumS_bd _ _

/-- a list of bytes, or none -/
def selB (b : Bool) (l : List UInt8) : ByteArray := if b then ⟨l.toArray⟩ else ⟨#[]⟩
def selN (b : Bool) (x : Int) : Int := if b then x else 0
def shortB (l : List UInt8) : Bool := decide (l.length ≤ 4000)
end Go.Proofs.YtlahpnihnpmgoaaDoor
