/- Contracts of the reader of choices: any1, and the arguments drawn for SplitString and LessString. -/
import Derived.Test.YtppnmpkefchknaaCu
import Derived.Test.YtppnmpkefchknaaCi
namespace Go.Proofs.Ytppnmpkefchknaa
open Go.RowKit
set_option linter.unusedVariables false
set_option linter.unusedSimpArgs false

/-- cells that hold texts of at most L bytes -/
def strsB (L : Nat) (cs : List Value) : Bool := cs.all fun v => match v with | .string q => decide (q.size ≤ L) | _ => false
theorem strs_at {L : Nat} {cs : List Value} (h : strsB L cs = true) {i : Nat} (hi : i < cs.length) : ∃ q : ByteArray, q.size ≤ L ∧ cs[i]? = some (.string q) := by
  have h1 := List.all_eq_true.1 h cs[i] (List.getElem_mem hi)
  rw [List.getElem?_eq_getElem hi]
  split at h1
  · rename_i q hq
    exact ⟨q, of_decide_eq_true h1, by rw [hq]⟩
  · cases h1
theorem of_lit {w : World} {B g k : Nat} (L n : Nat) (cs : Array Value) (t : TypeId) (h : Cu w B g k) (hk : k ≤ 900000) (hn : cs.size = n) (hn0 : 1 ≤ n) (hn1 : n ≤ 1000) (hs : strsB L cs.toList = true) :
    Calls Try.prog 47 #[.pointer (some ⟨g, 0, none⟩), .slice (some ⟨w.heap.size, 0, none⟩) n n] (w.alloc (.cells cs t)) fun e w' => ∃ q : ByteArray, q.size ≤ L ∧ e = .returned (.string q) ∧ (∃ k', k' ≤ k + 2 ∧ Cu w' B g k') ∧ Far g w w' := by
  have hg := h.lt
  refine (of_any (fun q => q.size ≤ L) w.heap.size 0 n n (h.below (below_alloc w _)) hk hn0 hn1 (by omega) ((Box.new w t cs).lt) (fun i hi => ?_)).mono ?_
  · obtain ⟨q, hq, he⟩ := strs_at hs (i := i) (by simpa [hn] using hi)
    refine ⟨q, hq, ?_⟩
    rw [Nat.zero_add, (Box.new w t cs).cell i, ← Array.getElem?_toList]
    exact he
  · rintro e w' ⟨q, hq, he, hc, hf⟩
    exact ⟨q, hq, he, hc, (Far.of_below (below_alloc w _)).trans hf⟩

set_option maxHeartbeats 1000000 in
theorem any1_any {w : World} {B g k : Nat} (h : Cu w B g k) (hk : k ≤ 900000) :
    Calls Try.prog 46 #[.pointer (some ⟨g, 0, none⟩)] w fun e w' => ∃ q : ByteArray, q.size ≤ 10 ∧ e = .returned (.string q) ∧ (∃ k', k' ≤ k + 2 ∧ Cu w' B g k') ∧ Far g w w' := by
  have HCu := Lib.hid h
  clear h
  go_enter Try.func46, Try.ntmps46
  go_wp2_with fail
  refine (of_lit 10 9 _ _ HCu.out hk rfl (by omega) (by omega) (by decide)).mono ?_
  rintro e w1 ⟨q, hq, rfl, hc, hf⟩
  have HC := Lib.hid hc
  clear hc
  go_wp2
  go_ret
  exact ⟨q, hq, rfl, HC.out, hf⟩

set_option maxHeartbeats 1000000 in
theorem DrawSplitString_any (A : Option Addr) (n c : Nat) (w : World) (h : Code w w.heap.size A n) :
    Calls Try.prog 7 #[.slice A n c] w fun e w' => ∃ q r : ByteArray, (q.size ≤ 10 ∧ r.size ≤ 2) ∧ e = .returned (.tuple #[.string q, .string r]) ∧ Below w.heap.size w w' := by
  have HN := Lib.hid (Cu.new (c := c) h)
  clear h
  go_enter Try.func7, Try.ntmps7
  go_wp2_with fail
  refine (any1_any HN.out (by omega)).mono ?_
  rintro e w1 ⟨q, hq, rfl, ⟨k1, hk1, hc1⟩, hf1⟩
  have HC1 := Lib.hid hc1
  have HF1 := Lib.hid hf1
  clear hc1 hf1
  go_wp2_with fail
  refine (of_lit 2 5 _ _ HC1.out (by omega) rfl (by omega) (by omega) (by decide)).mono ?_
  rintro e w2 ⟨r, hr, rfl, ⟨k2, hk2, hc2⟩, hf2⟩
  clear hc2
  go_wp2
  go_ret2
  exact ⟨q, r, ⟨hq, hr⟩, rfl, (below_alloc w _).trans ((HF1.out.trans hf2).below (Nat.le_refl _) (below_alloc w _).size)⟩

set_option maxHeartbeats 1000000 in
theorem DrawLessString_any (A : Option Addr) (n c : Nat) (w : World) (h : Code w w.heap.size A n) :
    Calls Try.prog 12 #[.slice A n c] w fun e w' => ∃ q r : ByteArray, (q.size ≤ 10 ∧ r.size ≤ 10) ∧ e = .returned (.tuple #[.string q, .string r]) ∧ Below w.heap.size w w' := by
  have HN := Lib.hid (Cu.new (c := c) h)
  clear h
  go_enter Try.func12, Try.ntmps12
  go_wp2_with fail
  refine (any1_any HN.out (by omega)).mono ?_
  rintro e w1 ⟨q, hq, rfl, ⟨k1, hk1, hc1⟩, hf1⟩
  have HC1 := Lib.hid hc1
  have HF1 := Lib.hid hf1
  clear hc1 hf1
  go_wp2_with fail
  refine (any1_any HC1.out (by omega)).mono ?_
  rintro e w2 ⟨r, hr, rfl, ⟨k2, hk2, hc2⟩, hf2⟩
  clear hc2
  go_wp2
  go_ret2
  exact ⟨q, r, ⟨hq, hr⟩, rfl, (below_alloc w _).trans ((HF1.out.trans hf2).below (Nat.le_refl _) (below_alloc w _).size)⟩
end Go.Proofs.Ytppnmpkefchknaa
