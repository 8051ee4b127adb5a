/- Contracts of the reader of choices: page. Things of the call's own besides the reader. -/
import Derived.Test.YtaaocnfbbajphaaSc
import Derived.Test.YtaaocnfbbajphaaTh4
namespace Go.Proofs.Ytaaocnfbbajphaa
open Go.RowKit
set_option linter.unusedVariables false
set_option linter.unusedSimpArgs false

set_option maxHeartbeats 1000000 in
theorem page_any {w : World} {B g k : Nat} (h : Cu w B g k) (hk : k ≤ 800000) :
    Calls Try.prog 38 #[.pointer (some ⟨g, 0, none⟩)] w fun e w' => ∃ x : Int, (-1 ≤ x ∧ x ≤ 16) ∧ e = .returned (.int .i64 x) ∧ (∃ k', k' ≤ k + 4 ∧ Cu w' B g k') ∧ Far g w w' := by
  have HCu := Lib.hid h
  clear h
  go_enter Try.func38, Try.ntmps38
  go_wp2_with fail
  refine (one_any 20 HCu.out (by omega) (by decide) (by decide)).mono ?_
  rintro e w1 ⟨r, rfl, ⟨k1, hk1, hc1⟩, hf1⟩
  have HC1 := Lib.hid hc1
  have HF1 := Lib.hid hf1
  clear hc1 hf1
  cases r
  · go_wp2_with fail
    refine (pick_any 16 HC1.out (by omega) (by decide) (by decide)).mono ?_
    rintro e w2 ⟨x, ⟨hx0, hx1, _⟩, rfl, ⟨k2, hk2, hc2⟩, hf2⟩
    have hx2 := hx1 (by decide)
    have HC2 := Lib.hid hc2
    have HF2 := Lib.hid hf2
    clear hc2 hf2 hx1
    go_wp2
    go_ret
    exact ⟨x, ⟨by omega, by omega⟩, rfl, ⟨k2, by omega, HC2.out⟩, HF1.out.trans HF2.out⟩
  · go_wp2_with fail
    refine (among_lit (-1) 16 2 _ _ HC1.out (by omega) rfl (by omega) (by omega) (by decide)).mono ?_
    rintro e w2 ⟨x, hx, rfl, ⟨k2, hk2, hc2⟩, hf2⟩
    have HC2 := Lib.hid hc2
    have HF2 := Lib.hid hf2
    clear hc2 hf2
    go_wp2
    go_ret
    exact ⟨x, hx, rfl, ⟨k2, by omega, HC2.out⟩, HF1.out.trans HF2.out⟩

/-- things of another call, behind all that was -/
theorem SepC.join {W0 w w' : World} {g k : Nat} {L M : List Thing} (S : SepC W0 w g k L) (R : Sep w w' M) : SepC W0 w' g k (L ++ M) :=
  ⟨S.sep.join R, S.cu.below R.bel, fun t ht => by
    rcases List.mem_append.1 ht with h | h
    · exact S.far t h
    · obtain ⟨i, hi⟩ := List.getElem?_of_mem h
      intro e
      have h1 := blk_own (R.own i t hi) g e
      have h2 := S.cu.lt
      omega⟩
end Go.Proofs.Ytaaocnfbbajphaa
