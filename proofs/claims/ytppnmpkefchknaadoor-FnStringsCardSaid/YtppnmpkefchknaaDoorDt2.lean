/- Words on a text turned into bytes and back, and on a byte changed by xor. No conditions. -/
import Derived.Test.YtppnmpkefchknaaDoorDs
import Derived.Lib.ConvBytes
namespace Go.Proofs.YtppnmpkefchknaaDoor
open Go.RowKit
set_option linter.unusedVariables false
set_option linter.unusedSimpArgs false

theorem conv_ex (w : World) (l : List UInt8) : ∃ (cap : Nat) (w' : World), (convert 9 22 (.string ⟨l.toArray⟩)).run Tryd.prog w = .ok (.slice (some ⟨w.heap.size, 0, none⟩) l.length cap) w' ∧ Below w.heap.size w w' ∧
    (∀ (j : Nat) (c : UInt8), l[j]? = some c → w'.cell? ⟨w.heap.size, j, none⟩ = some (.int .u8 c.toNat)) ∧ (∀ j, j < l.length → w'.frozen? ⟨w.heap.size, j, none⟩ = false) ∧ w'.heap.size = w.heap.size + 1 := by
  have h := Lib.run_convert_string_bytes (P := Tryd.prog) w 9 22 5 ⟨l.toArray⟩ Tryd.underlying9 Tryd.underlying22 Tryd.underlying5
  rw [mk_size] at h
  refine ⟨_, _, h, ⟨rfl, rfl, rfl, by rw [Lib.bytesWorld_size]; omega, fun j hj => Lib.bytesWorld_at_old w _ _ j hj⟩, fun j c hc => ?_, fun j hj => ?_, Lib.bytesWorld_size _ _ _⟩
  · have hj := (List.getElem?_eq_some_iff.1 hc).1
    rw [Lib.bytesWorld_cell w _ _ j (by rw [mk_size]; exact hj)]
    simp [List.getD, hc]
  · have h2 : j < (Lib.bytesCells w 5 ⟨l.toArray⟩).size := by
      unfold Lib.bytesCells
      simp
      omega
    simp [World.frozen?, Lib.bytesWorld_at_new]
    omega
theorem back_conv {w : World} {g cap : Nat} {l : List UInt8} (h : ∀ (j : Nat) (c : UInt8), l[j]? = some c → w.cell? ⟨g, j, none⟩ = some (.int .u8 c.toNat)) {N : Nat} (hN : l.length = N) :
    (convert 22 9 (.slice (some ⟨g, 0, none⟩) N cap)).run Tryd.prog w = .ok (.string ⟨l.toArray⟩) w := by
  subst hN
  refine run_convert_bytes_back (P := Tryd.prog) w 22 9 5 ⟨g, 0, none⟩ cap l Tryd.underlying22 Tryd.underlying5 Tryd.underlying9 fun j hj => ?_
  have hadd : (⟨g, 0, none⟩ : Addr).add j = ⟨g, j, none⟩ := by unfold Addr.add; split <;> simp_all
  rw [hadd]
  exact h j _ (List.getElem?_eq_getElem hj)
/-- a byte changed -/
theorem xor_ne (c : UInt8) (m : Int) (h0 : 1 ≤ m) (h1 : m ≤ 255) : ∃ d : UInt8, bits .xor .u8 (c.toNat : Int) m = (d.toNat : Int) ∧ c ≠ d := by
  obtain ⟨k, rfl⟩ := Int.eq_ofNat_of_zero_le (show 0 ≤ m by omega)
  have hk : k < 256 := by omega
  have hc := c.toNat_lt
  refine ⟨c ^^^ UInt8.ofNat k, ?_, ?_⟩
  · have e1 : (c ^^^ UInt8.ofNat k).toNat = c.toNat ^^^ k := by
      rw [UInt8.toNat_xor, UInt8.toNat_ofNat', Nat.mod_eq_of_lt (by omega)]
    rw [e1]
    have e2 : (BitVec.ofInt 8 (c.toNat : Int)).toNat = c.toNat := by simp <;> omega
    have e3 : (BitVec.ofInt 8 (k : Int)).toNat = k := by simp <;> omega
    have e4 : c.toNat ^^^ k < 256 := Nat.xor_lt_two_pow (n := 8) (by omega) (by omega)
    show IntKind.u8.wrap ((BitVec.ofInt 8 (c.toNat : Int) ^^^ BitVec.ofInt 8 (k : Int)).toNat : Int) = _
    rw [BitVec.toNat_xor, e2, e3]
    show ((c.toNat ^^^ k : Nat) : Int) % 256 = _
    omega
  · intro e
    have e5 := congrArg (fun z => c ^^^ z) e
    have e6 : (0 : UInt8) = UInt8.ofNat k := by
      simpa [← UInt8.xor_assoc] using e5
    have e7 := congrArg UInt8.toNat e6
    rw [UInt8.toNat_ofNat', Nat.mod_eq_of_lt (by omega)] at e7
    have e8 : (0 : UInt8).toNat = 0 := rfl
    omega
end Go.Proofs.YtppnmpkefchknaaDoor
