/- Contract of the reader of choices: of. -/
import Derived.Test.YtppnmpkefchknaaDoorCu0
namespace Go.Proofs.YtppnmpkefchknaaDoor
open Go.RowKit
set_option linter.unusedVariables false
set_option linter.unusedSimpArgs false

set_option maxHeartbeats 1000000 in
theorem of_any {w : World} {B g k : Nat} (P : ByteArray → Prop) (b o n c : Nat) (h : Cu w B g k) (hk : k ≤ 900000) (hn0 : 1 ≤ n) (hn : n ≤ 1000) (hbg : b ≠ g) (hbw : b < w.heap.size)
    (hl : ∀ i, i < n → ∃ q, P q ∧ w.cell? ⟨b, o + i, none⟩ = some (.string q)) :
    Calls Tryd.prog 23 #[.pointer (some ⟨g, 0, none⟩), .slice (some ⟨b, o, none⟩) n c] w fun e w' => ∃ q, P q ∧ e = .returned (.string q) ∧ (∃ k', k' ≤ k + 2 ∧ Cu w' B g k') ∧ Far g w w' := by
  have HCu := Lib.hid h
  have HL := Lib.hid hl
  clear h hl
  go_enter Tryd.func23, Tryd.ntmps23
  go_wp2_with fail
  refine (pick_any (n : Int) HCu.out hk (by omega) (by omega)).mono ?_
  rintro e w1 ⟨x, ⟨hx0, hx1, hx2⟩, rfl, hc1, hf⟩
  have HC1 := Lib.hid hc1
  have hx3 := hx1 (by omega)
  clear hc1 hx1
  obtain ⟨j, rfl⟩ := Int.eq_ofNat_of_zero_le hx0
  obtain ⟨q, hq, hcell0⟩ := HL.out j (by omega)
  have hcell := (hf.cell hbg hbw (o + j)).trans hcell0
  clear hcell0
  have HF := Lib.hid hf
  have HQ := Lib.hid hq
  clear hf hq
  go_wp2
  go_ret
  exact ⟨q, HQ.out, rfl, HC1.out, HF.out⟩
end Go.Proofs.YtppnmpkefchknaaDoor
