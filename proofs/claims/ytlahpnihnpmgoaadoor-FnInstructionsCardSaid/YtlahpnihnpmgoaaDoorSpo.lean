/- Contract of the reader of choices: spoilt. What is drawn is any text that is at most one byte longer. -/
import Derived.Test.YtlahpnihnpmgoaaDoorDr
namespace Go.Proofs.YtlahpnihnpmgoaaDoor
open Go.RowKit
set_option linter.unusedVariables false
set_option linter.unusedSimpArgs false

theorem mk_size (l : List UInt8) : (⟨l.toArray⟩ : ByteArray).size = l.length := by show l.toArray.size = _; simp
set_option maxRecDepth 100000 in
set_option maxHeartbeats 4000000 in
theorem spoilt_any {w : World} {B g k : Nat} (t m : List UInt8) (h : Cu w B g k) (hk : k ≤ 700000) (ht : t.length ≤ 5000) (hm0 : 1 ≤ m.length) (hm : m.length ≤ 20) :
    Calls Tryd.prog 40 #[.pointer (some ⟨g, 0, none⟩), .string ⟨t.toArray⟩, .string ⟨m.toArray⟩] w fun e w' => ∃ q : ByteArray, q.size ≤ t.length + 20 ∧ e = .returned (.string q) ∧ (∃ k', k' ≤ k + 6 ∧ Cu w' B g k') ∧ Far g w w' := by
  have R0 := Lib.hid (Rw.start h)
  clear h
  by_cases h0 : t = []
  · subst h0
    go_enter Tryd.func40, Tryd.ntmps40
    go_wp2
    go_ret
    refine ⟨_, ?_, rfl, ⟨k, by omega, R0.out.cu⟩, R0.out.far⟩
    rw [ByteArray.size_extract, mk_size]
    omega
  · have ht1 : 1 ≤ t.length := by cases t; exact absurd rfl h0; simp
    have hne : t.isEmpty = false := by cases t; exact absurd rfl h0; rfl
    go_enter Tryd.func40, Tryd.ntmps40
    go_wp2_with fail
    refine (pick_any (t.length : Int) R0.out.cu (by omega) (by omega) (by omega)).mono ?_
    rintro e w1 ⟨i, ⟨hi0, hi1, _⟩, rfl, ⟨k1, hk1, hc1⟩, hf1⟩
    have hi2 := hi1 (by omega)
    have R1 := Lib.hid (R0.out.step hc1 hf1)
    clear hc1 hf1 hi1 R0
    obtain ⟨i, rfl⟩ := Int.eq_ofNat_of_zero_le hi0
    go_wp2_with fail
    refine (pick_any (m.length : Int) R1.out.cu (by omega) (by omega) (by omega)).mono ?_
    rintro e w2 ⟨j, ⟨hj0, hj1, _⟩, rfl, ⟨k2, hk2, hc2⟩, hf2⟩
    have hj2 := hj1 (by omega)
    have R2 := Lib.hid (R1.out.step hc2 hf2)
    clear hc2 hf2 hj1 R1
    obtain ⟨j, rfl⟩ := Int.eq_ofNat_of_zero_le hj0
    have hms : ((⟨m.toArray⟩ : ByteArray).extract j m.length).size = m.length - j := by rw [ByteArray.size_extract, mk_size]; omega
    go_wp2_with fail
    refine (pick_any 3 R2.out.cu (by omega) (by decide) (by decide)).mono ?_
    rintro e w3 ⟨y, ⟨hy0, hy1, _⟩, rfl, ⟨k3, hk3, hc3⟩, hf3⟩
    have hy2 := hy1 (by decide)
    have R3 := Lib.hid (R2.out.step hc3 hf3)
    clear hc3 hf3 hy1 R2
    have hy3 : y = 0 ∨ y = 1 ∨ y = 2 := by omega
    have hi3 : i < t.length := by omega
    have hts : ((⟨t.toArray⟩ : ByteArray)).size = t.length := mk_size t
    have hms2 : ((⟨m.toArray⟩ : ByteArray)).size = m.length := mk_size m
    clear hy0 hy2
    rcases hy3 with rfl | rfl | rfl
    all_goals
      go_wp2_with fail
      go_quiet (fail)
      go_wp2
      go_ret
      refine ⟨_, ?_, rfl, ⟨k3, by omega, (R3.out.below (below_drewN (Below.refl _ _) _)).cu⟩, (R3.out.below (below_drewN (Below.refl _ _) _)).far⟩
      simp [ByteArray.size_append, ByteArray.size_extract, mk_size]
      omega
end Go.Proofs.YtlahpnihnpmgoaaDoor
