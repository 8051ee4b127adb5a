/- Contract of slices.Sort at a slice of the call's own; the sorted list is rising when it has no doubles. No conditions. -/
import Derived.Test.YtlahpnihnpmgoaaRd
import Derived.Test.YtlahpnihnpmgoaaShelfS
import Derived.Sort.OwnSortedInts
namespace Go.Proofs.Ytlahpnihnpmgoaa
open Go.RowKit
set_option linter.unusedVariables false
set_option linter.unusedSimpArgs false

/-- a list in order -/
def srtL (l : List Int) : List Int := l.mergeSort fun x y => decide (x ≤ y)
theorem srt_mem {l : List Int} {x : Int} : x ∈ srtL l ↔ x ∈ l := by unfold srtL; exact List.mem_mergeSort
theorem srt_len (l : List Int) : (srtL l).length = l.length := by unfold srtL; exact List.length_mergeSort l
theorem srt_rise {l : List Int} (h : l.Nodup) : Rise (srtL l) := by
  have h1 : (srtL l).Pairwise fun x y => decide (x ≤ y) = true := by
    unfold srtL
    apply List.pairwise_mergeSort
    · intro a b c hab hbc
      simp at hab hbc ⊢
      omega
    · intro a b
      simp
      omega
  have h2 : (srtL l).Nodup := (List.Perm.nodup_iff (List.mergeSort_perm l _)).2 h
  unfold Rise
  unfold List.Nodup at h2
  exact (h1.and h2).imp fun ⟨ha, hb⟩ => by
    simp at ha
    omega
theorem sort_own {w : World} {B g n c : Nat} {xs : List Int} (h : Own w B (ti (some ⟨g, 0, none⟩) n c xs)) (hn : n ≤ 1048576) :
    Calls Try.prog 32 #[.slice (some ⟨g, 0, none⟩) n c] w fun e w' => e = .returned (.tuple #[]) ∧ Own w' B (ti (some ⟨g, 0, none⟩) n c (srtL xs)) ∧ w.grownBy w' (some g) := by
  have hl : xs.length = n := h.rd.len
  subst hl
  rcases h.2 with ⟨hv, _⟩ | ⟨g', cap, cur, hv, hB, hg, hnc, hcm, hsz, htk⟩
  · cases hv
  · cases hv
    rw [Nat.mul_one] at htk
    refine (Try.slices_Sort_int g 0 c xs w (holds_of_blockI hg htk) (Array.getElem?_eq_some_iff.1 hg).1 (by omega)).mono ?_
    rintro e w' ⟨he, n, os, rfl⟩
    refine ⟨he, ?_, grownBy_sortedI _⟩
    have h1 := ownsRow_sortedI (n := n) (os := os) (ts := srtL xs) (srt_len xs) hB hg hnc hcm hsz
    exact h1
end Go.Proofs.Ytlahpnihnpmgoaa
