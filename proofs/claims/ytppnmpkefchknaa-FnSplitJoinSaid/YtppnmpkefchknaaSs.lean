/- Contracts of the small functions on lists of strings: markText, toStringS, eqStringS, markStringS, heldStringS. Lengths at most 2^20 where memory is made. -/
import Derived.Test.YtppnmpkefchknaaSa
import Derived.Test.YtppnmpkefchknaaSs0
import Derived.Lib.ItoaNum
namespace Go.Proofs.Ytppnmpkefchknaa
open Go.RowKit
set_option linter.unusedVariables false
set_option linter.unusedSimpArgs false

/-- the sign of a number -/
def mkT (m : Int) : List UInt8 := 109 :: Lib.decDigits m.toNat
theorem dec_small {k : Nat} (h : k < 10) : Lib.decDigits k = [UInt8.ofNat (48 + k)] := by rw [Lib.decDigits, dif_pos h]
theorem dec_big {k : Nat} (h : ¬ k < 10) : Lib.decDigits k = Lib.decDigits (k / 10) ++ [UInt8.ofNat (48 + k % 10)] := by rw [Lib.decDigits, dif_neg h]
/-- the last digit of a number -/
def dgB (k : Nat) : UInt8 := UInt8.ofNat (48 + k % 10)
/-- what the loop of markText keeps -/
def MtInv (k0 k : Nat) (l : List UInt8) : Prop := (k = 0 → l = Lib.decDigits k0) ∧ (0 < k → Lib.decDigits k ++ l = Lib.decDigits k0)
theorem MtInv.step {k0 k : Nat} {l : List UInt8} (h : MtInv k0 k l) (hk : 0 < k) : MtInv k0 (k / 10) (dgB k :: l) := by
  show MtInv k0 (k / 10) (UInt8.ofNat (48 + k % 10) :: l)
  have h2 := h.2 hk
  by_cases hs : k < 10
  · refine ⟨fun _ => ?_, fun h0 => by omega⟩
    rw [dec_small hs] at h2
    rw [← h2, Nat.mod_eq_of_lt hs]; rfl
  · refine ⟨fun h0 => by omega, fun _ => ?_⟩
    rw [dec_big hs] at h2
    rw [← h2]; simp
theorem bytes1 (k : Nat) (w : World) (g c : Nat) (h : w.cell? ⟨g, 0, none⟩ = some (.int .u8 (48 + (k : Int) % 10))) :
    (convert 22 9 (.slice (some ⟨g, 0, none⟩) 1 c)).run Try.prog w = .ok (.string ⟨#[dgB k]⟩) w := by
  refine run_convert_bytes_back (P := Try.prog) w 22 9 5 ⟨g, 0, none⟩ c [UInt8.ofNat (48 + k % 10)] Try.underlying22 Try.underlying5 Try.underlying9 fun j hj => ?_
  have h0 : j = 0 := by simpa using hj
  subst h0
  have e : ((UInt8.ofNat (48 + k % 10)).toNat : Int) = 48 + (k : Int) % 10 := by
    have : (UInt8.ofNat (48 + k % 10)).toNat = 48 + k % 10 := by rw [UInt8.toNat_ofNat']; omega
    omega
  have hadd : (⟨g, 0, none⟩ : Addr).add 0 = ⟨g, 0, none⟩ := rfl
  rw [hadd]
  simp only [List.getElem_cons_zero]
  rw [e]; exact h
theorem madeT (n : Nat) : (madeCells (Value.string ⟨#[]⟩).cells (n * 1)).toList = T (List.replicate n []) := by
  show (madeCells #[Value.string ⟨#[]⟩] (n * 1)).toList = _
  rw [toList_madeCells_one, Nat.mul_one]; simp [T]
def mksT (q : Int) (n : Nat) : List (List UInt8) := (List.range n).map fun i : Nat => mkT (q + (i : Int))
theorem mksT_length (q : Int) (n : Nat) : (mksT q n).length = n := by simp [mksT]
theorem mksT_get {q : Int} {n i : Nat} (h : i < n) : (mksT q n)[i]? = some (mkT (q + (i : Int))) := by simp [mksT, h]

end Go.Proofs.Ytppnmpkefchknaa
