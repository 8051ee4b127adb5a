/- Plain facts on runs and moves: the longest run is granted whole and one frame more is not; the moves of compacting are made one after the other. Nothing of the program is called. No conditions. -/
import Derived.Test.YtppnmpkefchknaaFp
import Derived.Test.YtppnmpkefchknaaFg
import Derived.Test.YtppnmpkefchknaaCm
namespace Go.Proofs.Ytppnmpkefchknaa
open Go.RowKit
set_option linter.unusedVariables false
set_option linter.unusedSimpArgs false

theorem good_run {xs : List Int} {b m : Nat} (h : Good xs xs.length b m) (hm : 0 < m) : firstRun xs m = some b := by
  refine firstRun_some (by have := h.fits; omega) (zB_iff.2 h.run) fun i hi => ?_
  cases hz : zB xs i m with
  | false => rfl
  | true =>
    have h1 := zB_iff.1 hz
    have h2 := h.first i (h1.fits hm) h1
    omega
theorem good_more {xs : List Int} {b m : Nat} (h : Good xs xs.length b m) : firstRun xs (m + 1) = none := by
  refine firstRun_none fun i hi => ?_
  cases hz : zB xs i (m + 1) with
  | false => rfl
  | true =>
    have h1 := zB_iff.1 hz
    have h2 := h.most i (m + 1) (h1.fits (by omega)) h1
    omega
theorem long_yes {xs : List Int} {b m : Nat} (ho : ownB xs = true) (h : Good xs xs.length b m) (hm : 0 < m) : grOk xs 1 (m : Int) = true ∧ grI xs (m : Int) = (b : Int) := by
  unfold grOk grI
  rw [Int.toNat_natCast, good_run h hm, ho, inB_iff.2 (show (1 : Int) ≤ 1 ∧ (1 : Int) ≤ 4 by omega)]
  have : (1 : Int) ≤ (m : Int) := by omega
  simp [this]
theorem long_no {xs : List Int} {b m : Nat} (h : Good xs xs.length b m) : grOk xs 1 ((m : Int) + 1) = false := by
  unfold grOk
  have : ((m : Int) + 1).toNat = m + 1 := by omega
  rw [this, good_more h]
  simp

/-- the moves made, k of them -/
def mvs (l : List Int) (mv : List RA2) : List Int := mv.foldl (fun l r => mvL l r.f1.toNat r.f0.toNat) l
theorem mvs_snoc (l : List Int) (mv : List RA2) (r : RA2) : mvs l (mv ++ [r]) = mvL (mvs l mv) r.f1.toNat r.f0.toNat := by unfold mvs; rw [List.foldl_append]; rfl
theorem mvs_len (l : List Int) (mv : List RA2) : (mvs l mv).length = l.length := by
  unfold mvs
  induction mv generalizing l with
  | nil => rfl
  | cons r mv ih => rw [List.foldl_cons, ih, mvL_len]
theorem frL_free {l : List Int} {f : Nat} (h : frL l < nzL l - 1) : l[frL l]? = some 0 := frL_at (by have := nzL_le l; omega)
/-- each move takes a frame that is not free to one that is free and lies before -/
theorem cm_at : ∀ (k : Nat) (l : List Int) (i : Nat) (r : RA2), (cmF k l).1[i]? = some r →
    ∃ (t f : Nat) (x : Int), r = ⟨(f : Int), (t : Int)⟩ ∧ t < f ∧ f < l.length ∧ (mvs l ((cmF k l).1.take i))[t]? = some 0 ∧ (mvs l ((cmF k l).1.take i))[f]? = some x ∧ x ≠ 0
  | 0, l, i, r, h => by simp [cmF] at h
  | k + 1, l, i, r, h => by
    by_cases hs : frL l < nzL l - 1
    · rw [cmF_go hs] at h ⊢
      cases i with
      | zero =>
        simp at h
        subst h
        obtain ⟨x, hx, hx0⟩ := nzL_at (l := l) (by omega)
        have := nzL_le l
        exact ⟨frL l, nzL l - 1, x, rfl, hs, by omega, by simpa [mvs] using frL_at (l := l) (by omega), by simpa [mvs] using hx, hx0⟩
      | succ i =>
        simp only [List.getElem?_cons_succ] at h
        obtain ⟨t, f, x, e, h1, h2, h3, h4, h5⟩ := cm_at k _ i r h
        rw [mvL_len] at h2
        refine ⟨t, f, x, e, h1, h2, ?_, ?_, h5⟩
        · simpa [mvs] using h3
        · simpa [mvs] using h4
    · rw [cmF_stop hs] at h
      simp at h
theorem cm_end : ∀ (k : Nat) (l : List Int), mvs l (cmF k l).1 = (cmF k l).2
  | 0, l => rfl
  | k + 1, l => by
    by_cases hs : frL l < nzL l - 1
    · rw [cmF_go hs]
      have := cm_end k (mvL l (frL l) (nzL l - 1))
      simpa [mvs] using this
    · rw [cmF_stop hs]; rfl
/-- behind the last move no free frame lies before one that is not free -/
theorem cm_packed : ∀ (k : Nat) (l : List Int), nzL l ≤ k → ¬ frL (cmF k l).2 < nzL (cmF k l).2 - 1
  | 0, l, h => by simp only [cmF]; omega
  | k + 1, l, h => by
    by_cases hs : frL l < nzL l - 1
    · rw [cmF_go hs]
      refine cm_packed k _ ?_
      have := mvL_nz (l := l) (t := frL l) (f := nzL l - 1) (by omega) (by omega)
      omega
    · rw [cmF_stop hs]; exact hs
theorem packed_at {l : List Int} (h : ¬ frL l < nzL l - 1) {i : Nat} {x y : Int} (hx : l[i]? = some x) (hy : l[i + 1]? = some y) (hy0 : y ≠ 0) : x ≠ 0 := by
  have h1 : i + 1 < nzL l := by
    rcases Nat.lt_or_ge (i + 1) (nzL l) with h1 | h1
    · exact h1
    · exact absurd (nzL_after h1 hy) hy0
  exact frL_before (by omega) hx
theorem mv_count {l : List Int} {t f : Nat} {x : Int} (htf : t < f) (ht : l[t]? = some 0) (hf : l[f]? = some x) {g : Int} (hg : g ≠ 0) : (mvL l t f).count g = l.count g := by
  obtain ⟨h1, e1⟩ := List.getElem?_eq_some_iff.1 ht
  obtain ⟨h2, e2⟩ := List.getElem?_eq_some_iff.1 hf
  have h3 : l.count x ≥ 1 := by
    have : x ∈ l := List.mem_of_getElem? hf
    exact List.count_pos_iff.2 this
  unfold mvL
  rw [hf, Option.getD_some, List.count_set (by simpa using h2), List.count_set h1, List.getElem_set_ne (by omega), e1, e2]
  by_cases e : x = g
  · subst e
    have h0 : ((0 : Int) == x) = false := by simp; omega
    simp [h0]
  · have h0 : ((0 : Int) == g) = false := by simp; omega
    simp [h0, e]
theorem cm_count {g : Int} (hg : g ≠ 0) : ∀ (k : Nat) (l : List Int), (cmF k l).2.count g = l.count g
  | 0, l => rfl
  | k + 1, l => by
    by_cases hs : frL l < nzL l - 1
    · rw [cmF_go hs]
      obtain ⟨x, hx, _⟩ := nzL_at (l := l) (by omega)
      have := nzL_le l
      exact (cm_count hg k _).trans (mv_count hs (frL_at (by omega)) hx hg)
    · rw [cmF_stop hs]
theorem mem_mvL {l : List Int} {t f : Nat} {x : Int} (h : x ∈ mvL l t f) (hf : f < l.length) : x ∈ l ∨ x = 0 := by
  unfold mvL at h
  rcases List.mem_or_eq_of_mem_set h with e | e
  · rcases List.mem_or_eq_of_mem_set e with e | e
    · exact .inl e
    · left
      rw [e, List.getElem?_eq_getElem hf]
      exact List.getElem_mem hf
  · exact .inr e
theorem cm_mem {x : Int} : ∀ (k : Nat) (l : List Int), x ∈ (cmF k l).2 → x ∈ l ∨ x = 0
  | 0, l, h => .inl h
  | k + 1, l, h => by
    by_cases hs : frL l < nzL l - 1
    · rw [cmF_go hs] at h
      have := nzL_le l
      rcases cm_mem k _ h with e | e
      · exact mem_mvL e (by omega)
      · exact .inr e
    · rw [cmF_stop hs] at h
      exact .inl h
theorem cm_own {l : List Int} (h : ownB l = true) : ownB (cmF l.length l).2 = true := by
  obtain ⟨h1, h2, h3⟩ := ownB_iff.1 h
  have hl := (cmF_len l.length l).1
  refine ownB_iff.2 ⟨by omega, by omega, fun x hx => ?_⟩
  rcases cm_mem _ _ hx with e | e
  · exact h3 x e
  · omega
theorem cm_frames {l : List Int} {g : Int} (hg : 1 ≤ g) : (framesL (cmF l.length l).2 g).length = (framesL l g).length := by
  rw [framesL_count, framesL_count, cm_count (by omega)]
end Go.Proofs.Ytppnmpkefchknaa
