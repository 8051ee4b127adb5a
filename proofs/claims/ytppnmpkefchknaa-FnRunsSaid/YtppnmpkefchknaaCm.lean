/- Plain words on compacting owners: the moves, one after the other. Nothing of the program is named. No conditions. -/
import Derived.Test.YtppnmpkefchknaaMem
import Derived.Test.YtppnmpkefchknaaSl
namespace Go.Proofs.Ytppnmpkefchknaa
open Go.RowKit
set_option linter.unusedVariables false
set_option linter.unusedSimpArgs false

/-- a pair of ints -/
structure RA2 where
  f0 : Int
  f1 : Int
def cA2 (x : RA2) : List Value := [.int .i64 x.f0, .int .i64 x.f1]
abbrev vA2 (x : RA2) : Value := .agg #[.int .i64 x.f0, .int .i64 x.f1]
theorem cA2_len (x : RA2) : (cA2 x).length = 2 := rfl
theorem posA2 : 0 < 2 := by decide
theorem cA2_one (x : RA2) : ∀ u ∈ cA2 x, u.oneCell' = true := by
  intro u hu
  simp [cA2] at hu
  rcases hu with rfl | rfl <;> rfl

/-- the first free frame, or the length -/
def frL : List Int → Nat
  | [] => 0
  | x :: l => if x = 0 then 0 else frL l + 1
/-- one behind the last frame that is not free, or 0 -/
def nzL : List Int → Nat
  | [] => 0
  | x :: l => if nzL l = 0 then (if x = 0 then 0 else 1) else nzL l + 1
theorem frL_le : ∀ l : List Int, frL l ≤ l.length
  | [] => Nat.le_refl _
  | x :: l => by unfold frL; split; omega; simp; exact frL_le l
theorem frL_before : ∀ {l : List Int} {k : Nat} {x : Int}, k < frL l → l[k]? = some x → x ≠ 0
  | [], k, x, h, _ => by simp [frL] at h
  | y :: l, 0, x, h, hx => by
    unfold frL at h
    split at h
    · omega
    · simp at hx; subst hx; assumption
  | y :: l, k + 1, x, h, hx => by
    unfold frL at h
    split at h
    · omega
    · exact frL_before (l := l) (k := k) (by omega) (by simpa using hx)
theorem frL_at : ∀ {l : List Int}, frL l < l.length → l[frL l]? = some 0
  | [], h => by simp [frL] at h
  | y :: l, h => by
    by_cases hy : y = 0
    · simp [frL, hy]
    · simp only [frL, hy, if_false] at h ⊢
      simpa using frL_at (by simpa using h)
theorem frL_eq {l : List Int} {k : Nat} (h1 : ∀ j x, j < k → l[j]? = some x → x ≠ 0) (h2 : k < l.length → l[k]? = some 0) (h3 : k ≤ l.length) : frL l = k := by
  rcases Nat.lt_trichotomy (frL l) k with h | h | h
  · have := frL_at (l := l) (by omega)
    exact absurd rfl (h1 _ _ h this)
  · exact h
  · have hl : k < l.length := by have := frL_le l; omega
    exact absurd rfl (frL_before h (h2 hl))
theorem nzL_le : ∀ l : List Int, nzL l ≤ l.length
  | [] => Nat.le_refl _
  | x :: l => by
    have := nzL_le l
    unfold nzL
    repeat' split
    all_goals simp
    all_goals omega
theorem nzL_after : ∀ {l : List Int} {k : Nat} {x : Int}, nzL l ≤ k → l[k]? = some x → x = 0
  | [], k, x, _, h => by simp at h
  | y :: l, 0, x, h, hx => by
    unfold nzL at h
    simp at hx; subst hx
    split at h
    · split at h
      · assumption
      · omega
    · omega
  | y :: l, k + 1, x, h, hx => by
    refine nzL_after (l := l) (k := k) ?_ (by simpa using hx)
    unfold nzL at h
    split at h
    · omega
    · omega
theorem nzL_at : ∀ {l : List Int}, 0 < nzL l → ∃ x, l[nzL l - 1]? = some x ∧ x ≠ 0
  | [], h => by simp [nzL] at h
  | y :: l, h => by
    unfold nzL at h ⊢
    by_cases h0 : nzL l = 0
    · by_cases hy : y = 0
      · simp [h0, hy] at h
      · exact ⟨y, by simp [h0, hy], hy⟩
    · obtain ⟨x, hx, hx0⟩ := nzL_at (l := l) (by omega)
      refine ⟨x, ?_, hx0⟩
      rw [if_neg h0]
      have : nzL l + 1 - 1 = (nzL l - 1) + 1 := by omega
      rw [this]; simpa using hx
theorem nzL_eq {l : List Int} {k : Nat} (h1 : ∀ j x, k ≤ j → l[j]? = some x → x = 0) (h2 : 0 < k → ∃ x, l[k - 1]? = some x ∧ x ≠ 0) : nzL l = k := by
  rcases Nat.lt_trichotomy (nzL l) k with h | h | h
  · obtain ⟨x, hx, hx0⟩ := h2 (by omega)
    exact absurd (nzL_after (by omega) hx) hx0
  · exact h
  · obtain ⟨x, hx, hx0⟩ := nzL_at (l := l) (by omega)
    exact absurd (h1 _ _ (by omega) hx) hx0

/-- a frame's owner moved to another frame -/
def mvL (l : List Int) (t f : Nat) : List Int := (l.set t (l[f]?.getD 0)).set f 0
theorem mvL_len (l : List Int) (t f : Nat) : (mvL l t f).length = l.length := by simp [mvL]
/-- behind a move fewer frames lie before the last one that is not free -/
theorem mvL_nz {l : List Int} {t f : Nat} (h : nzL l = f + 1) (ht : t < f) : nzL (mvL l t f) ≤ f := by
  have hl := nzL_le l
  rcases Nat.lt_or_ge f (nzL (mvL l t f)) with h1 | h1
  · exfalso
    obtain ⟨x, hx, hx0⟩ := nzL_at (l := mvL l t f) (by omega)
    have hn : nzL (mvL l t f) - 1 ≥ f := by omega
    generalize nzL (mvL l t f) - 1 = p at hx hn
    unfold mvL at hx
    rw [List.getElem?_set] at hx
    split at hx
    · rename_i hf
      split at hx
      · exact hx0 (Option.some.inj hx).symm
      · cases hx
    · rename_i hf
      rw [List.getElem?_set_ne (by omega)] at hx
      exact hx0 (nzL_after (l := l) (k := p) (by omega) hx)
  · exact h1

/-- the moves and the owners behind them -/
def cmF : Nat → List Int → List RA2 × List Int
  | 0, l => ([], l)
  | k + 1, l => if frL l < nzL l - 1 then
      let r := cmF k (mvL l (frL l) (nzL l - 1))
      (⟨((nzL l - 1 : Nat) : Int), (frL l : Int)⟩ :: r.1, r.2)
    else ([], l)
theorem cmF_stop {k : Nat} {l : List Int} (h : ¬ frL l < nzL l - 1) : cmF k l = ([], l) := by
  cases k with
  | zero => rfl
  | succ k => rw [cmF, if_neg h]
theorem cmF_go {k : Nat} {l : List Int} (h : frL l < nzL l - 1) : cmF (k + 1) l = (⟨((nzL l - 1 : Nat) : Int), (frL l : Int)⟩ :: (cmF k (mvL l (frL l) (nzL l - 1))).1, (cmF k (mvL l (frL l) (nzL l - 1))).2) := by
  rw [cmF, if_pos h]
theorem cmF_len : ∀ (k : Nat) (l : List Int), (cmF k l).2.length = l.length ∧ (cmF k l).1.length ≤ k
  | 0, l => by simp [cmF]
  | k + 1, l => by
    by_cases h : frL l < nzL l - 1
    · rw [cmF_go h]
      have := cmF_len k (mvL l (frL l) (nzL l - 1))
      rw [mvL_len] at this
      exact ⟨this.1, by simp; omega⟩
    · rw [cmF_stop h]; simp
/-- where the loop stands: the moves so far and the owners as they are lead to the same end -/
def CmInv (l0 : List Int) (mv : List RA2) (l : List Int) (k : Nat) : Prop := nzL l ≤ k ∧ l.length = l0.length ∧ mv.length + k ≤ l0.length ∧ mv ++ (cmF k l).1 = (cmF l0.length l0).1 ∧ (cmF k l).2 = (cmF l0.length l0).2
theorem CmInv.start (l0 : List Int) : CmInv l0 [] l0 l0.length := ⟨nzL_le _, rfl, by simp, by simp, rfl⟩
theorem CmInv.step {l0 : List Int} {mv : List RA2} {l : List Int} {k : Nat} (h : CmInv l0 mv l k) (hs : frL l < nzL l - 1) :
    ∃ k', k = k' + 1 ∧ CmInv l0 (mv ++ [⟨((nzL l - 1 : Nat) : Int), (frL l : Int)⟩]) (mvL l (frL l) (nzL l - 1)) k' := by
  obtain ⟨h1, h2, h3, h4, h5⟩ := h
  match k, h1, h3, h4, h5 with
  | 0, h1, _, _, _ => omega
  | k + 1, h1, h3, h4, h5 =>
    rw [cmF_go hs] at h4 h5
    refine ⟨k, rfl, ?_, by rw [mvL_len]; exact h2, by simp; omega, by rw [← h4]; simp, h5⟩
    have := mvL_nz (l := l) (t := frL l) (f := nzL l - 1) (by omega) hs
    omega
theorem CmInv.stop {l0 : List Int} {mv : List RA2} {l : List Int} {k : Nat} (h : CmInv l0 mv l k) (hs : ¬ frL l < nzL l - 1) : mv = (cmF l0.length l0).1 ∧ l = (cmF l0.length l0).2 := by
  obtain ⟨h1, h2, h3, h4, h5⟩ := h
  rw [cmF_stop hs] at h4 h5
  exact ⟨by simpa using h4, h5⟩
end Go.Proofs.Ytppnmpkefchknaa
