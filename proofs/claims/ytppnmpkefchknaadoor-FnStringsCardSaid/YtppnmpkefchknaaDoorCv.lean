/- Contracts of the reader of choices: any1, and the arguments drawn for SplitString and LessString. -/
import Derived.Test.YtppnmpkefchknaaDoorCu
import Derived.Test.YtppnmpkefchknaaDoorCi
namespace Go.Proofs.YtppnmpkefchknaaDoor
open Go.RowKit
set_option linter.unusedVariables false
set_option linter.unusedSimpArgs false

/-- cells that hold texts of at most L bytes -/
def strsB (L : Nat) (cs : List Value) : Bool := cs.all fun v => match v with | .string q => decide (q.size ≤ L) | _ => false
theorem strs_at {L : Nat} {cs : List Value} (h : strsB L cs = true) {i : Nat} (hi : i < cs.length) : ∃ q : ByteArray, q.size ≤ L ∧ cs[i]? = some (.string q) := by
  have h1 := List.all_eq_true.1 h cs[i] (List.getElem_mem hi)
  rw [List.getElem?_eq_getElem hi]
  split at h1
  · rename_i q hq
    exact ⟨q, of_decide_eq_true h1, by rw [hq]⟩
  · cases h1
theorem of_lit {w : World} {B g k : Nat} (L n : Nat) (cs : Array Value) (t : TypeId) (h : Cu w B g k) (hk : k ≤ 900000) (hn : cs.size = n) (hn0 : 1 ≤ n) (hn1 : n ≤ 1000) (hs : strsB L cs.toList = true) :
    Calls Tryd.prog 23 #[.pointer (some ⟨g, 0, none⟩), .slice (some ⟨w.heap.size, 0, none⟩) n n] (w.alloc (.cells cs t)) fun e w' => ∃ q : ByteArray, q.size ≤ L ∧ e = .returned (.string q) ∧ (∃ k', k' ≤ k + 2 ∧ Cu w' B g k') ∧ Far g w w' := by
  have hg := h.lt
  refine (of_any (fun q => q.size ≤ L) w.heap.size 0 n n (h.below (below_alloc w _)) hk hn0 hn1 (by omega) ((Box.new w t cs).lt) (fun i hi => ?_)).mono ?_
  · obtain ⟨q, hq, he⟩ := strs_at hs (i := i) (by simpa [hn] using hi)
    refine ⟨q, hq, ?_⟩
    rw [Nat.zero_add, (Box.new w t cs).cell i, ← Array.getElem?_toList]
    exact he
  · rintro e w' ⟨q, hq, he, hc, hf⟩
    exact ⟨q, hq, he, hc, (Far.of_below (below_alloc w _)).trans hf⟩

set_option maxHeartbeats 1000000 in
theorem any1_any {w : World} {B g k : Nat} (h : Cu w B g k) (hk : k ≤ 900000) :
    Calls Tryd.prog 26 #[.pointer (some ⟨g, 0, none⟩)] w fun e w' => ∃ q : ByteArray, q.size ≤ 10 ∧ e = .returned (.string q) ∧ (∃ k', k' ≤ k + 2 ∧ Cu w' B g k') ∧ Far g w w' := by
  have HCu := Lib.hid h
  clear h
  go_enter Tryd.func26, Tryd.ntmps26
  go_wp2_with fail
  refine (of_lit 10 9 _ _ HCu.out hk rfl (by omega) (by omega) (by decide)).mono ?_
  rintro e w1 ⟨q, hq, rfl, hc, hf⟩
  have HC := Lib.hid hc
  clear hc
  go_wp2
  go_ret
  exact ⟨q, hq, rfl, HC.out, hf⟩

end Go.Proofs.YtppnmpkefchknaaDoor
