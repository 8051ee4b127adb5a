/- Opening the code of a law that draws: a slice of bytes. No conditions. -/
import Derived.Test.YtaaocnfbbajphaaOpen
import Derived.Test.YtaaocnfbbajphaaCu0
namespace Go.Proofs.Ytaaocnfbbajphaa
open Go.ChangeShapes Go.WideShapes Go.ChangeAt Go.RowKit Go.Deep
open Go.ChangeMaps (open_string shut_string)
set_option linter.unusedVariables false
set_option linter.unusedSimpArgs false

/-- a slice that reads as bytes -/
def Bys (w : World) (A : Option Addr) (n : Nat) : Prop := 0 < n → ∃ b o, A = some ⟨b, o, none⟩ ∧ b < w.heap.size ∧ ∀ i, i < n → ∃ u : UInt8, w.cell? ⟨b, o + i, none⟩ = some (.int .u8 u.toNat)
theorem Bys.code {w : World} {A : Option Addr} {n : Nat} (h : Bys w A n) (hn : n ≤ 65536) : Code w w.heap.size A n :=
  ⟨hn, fun h0 => by obtain ⟨b, o, e, hb, hc⟩ := h h0; exact ⟨b, o, e, hb, hb, hc⟩⟩
theorem Bys.keep {w w' : World} {A : Option Addr} {n : Nat} (h : Bys w A n) (hb : Below w.heap.size w w') : Bys w' A n := fun h0 => by
  obtain ⟨b, o, e, hl, hc⟩ := h h0
  refine ⟨b, o, e, Nat.lt_of_lt_of_le hl hb.size, fun i hi => ?_⟩
  rw [hb.cell (p := ⟨b, o + i, none⟩) hl]
  exact hc i hi
section
variable {H : Type} {enc : TypeId × Value → H} {P : Program} {w : World} {base : Nat} {spare : Nat → Bool} {held : Bool}
/-- a slice of bytes -/
theorem open_code {r : Reach} {b0 : Nat} {t e : TypeId} {v : Value} {d : DataW H} {ps : List MemPlace} (ht : P.underlying t = some (.slice e)) (he : P.underlying e = some (.int .u8)) (hc : P.cellsOf e = 1)
    (hv : Value.okWide P w r b0 t v) (h : DataW.Trod enc P w base spare held t v d ps) :
    ∃ (A : Option Addr) (n c : Nat), v = .slice A n c ∧ n ≤ c ∧ c ≤ maxLen ∧ Bys w A n := by
  obtain ⟨a0, len, cap, rfl⟩ := okWide_slice ht hv
  obtain ⟨fuel, hf⟩ := h
  rcases open_ints ht he hc hf with ⟨hcs, _⟩ | ⟨x, l, c, zs, hcs, _, hl, hm, hz, _, hcell, hwz⟩
  · simp [Value.cells] at hcs
    obtain ⟨rfl, rfl, rfl⟩ := hcs
    exact ⟨none, 0, 0, rfl, Nat.le_refl _, Nat.zero_le _, fun h0 => absurd h0 (by omega)⟩
  · simp [Value.cells] at hcs
    obtain ⟨rfl, rfl, rfl⟩ := hcs
    have hzl : len ≤ zs.length := by rw [hz]; split <;> omega
    refine ⟨some x, len, cap, rfl, hl, hm, fun hn => ?_⟩
    have h0 := hcell 0 (by omega)
    obtain ⟨b, o, spot⟩ := x
    have hspot : spot = none := by simpa [Addr.add] using World.cell?_spot h0
    subst hspot
    refine ⟨b, o, rfl, ?_, fun j hj => ?_⟩
    · have := World.block_lt_of_cell? _ _ h0
      simpa [Addr.add] using this
    · have h1 := hcell j (by omega)
      have hadd : (⟨b, o, none⟩ : Addr).add j = ⟨b, o + j, none⟩ := by unfold Addr.add; split <;> simp_all
      rw [hadd] at h1
      have hw := hwz (zs.getD j 0) (by
        have hjl : j < zs.length := by omega
        have e : zs.getD j 0 = zs[j] := by simp [List.getD, hjl]
        rw [e]; exact List.getElem_mem hjl)
      have hw2 : (decide (IntKind.u8.min ≤ zs.getD j 0) && decide (zs.getD j 0 ≤ IntKind.u8.max)) = true := hw
      rw [Bool.and_eq_true, decide_eq_true_eq, decide_eq_true_eq] at hw2
      have e1 : IntKind.u8.min = 0 := by decide
      have e2 : IntKind.u8.max = 255 := by decide
      obtain ⟨q, hq⟩ := Int.eq_ofNat_of_zero_le (a := zs.getD j 0) (by omega)
      refine ⟨UInt8.ofNat q, ?_⟩
      rw [h1, hq]
      have hq2 : q < 256 := by omega
      have : (UInt8.ofNat q).toNat = q := by rw [UInt8.toNat_ofNat']; omega
      rw [this]
end
end Go.Proofs.Ytaaocnfbbajphaa
