/- Plain facts on runs of free frames: the longest run is found alike by two ways of looking; a run of a given length. Nothing of the program is named. No conditions. -/
import Derived.Test.YtppnmpkefchknaaMem
namespace Go.Proofs.Ytppnmpkefchknaa
open Go.RowKit
set_option linter.unusedVariables false
set_option linter.unusedSimpArgs false

/-- l free frames from i on -/
def Zr (xs : List Int) (i l : Nat) : Prop := ∀ j, j < l → xs[i + j]? = some 0
theorem Zr.zero (xs : List Int) (i : Nat) : Zr xs i 0 := fun j h => absurd h (by omega)
theorem Zr.less {xs : List Int} {i l m : Nat} (h : Zr xs i l) (hm : m ≤ l) : Zr xs i m := fun j hj => h j (by omega)
theorem Zr.fits {xs : List Int} {i l : Nat} (h : Zr xs i l) (hl : 0 < l) : i + l ≤ xs.length := by
  have := h (l - 1) (by omega)
  have := (List.getElem?_eq_some_iff.1 this).1
  omega
theorem Zr.snoc {xs : List Int} {i l : Nat} (h : Zr xs i l) (hx : xs[i + l]? = some 0) : Zr xs i (l + 1) := fun j hj => by
  by_cases e : j = l
  · rw [e]; exact hx
  · exact h j (by omega)

/-- within the first k frames the longest free run begins first at b and has m frames -/
structure Good (xs : List Int) (k b m : Nat) : Prop where
  zero : m = 0 → b = 0
  run : Zr xs b m
  fits : b + m ≤ k
  most : ∀ i l, i + l ≤ k → Zr xs i l → l ≤ m
  first : ∀ i, i + m ≤ k → Zr xs i m → b ≤ i
theorem Good.unique {xs : List Int} {k b m b' m' : Nat} (h : Good xs k b m) (h' : Good xs k b' m') : b = b' ∧ m = m' := by
  have e : m = m' := Nat.le_antisymm (h'.most b m h.fits h.run) (h.most b' m' h'.fits h'.run)
  subst e
  exact ⟨Nat.le_antisymm (h.first b' h'.fits h'.run) (h'.first b h.fits h.run), rfl⟩

/-- the loop that looks at each frame once -/
structure Scan (xs : List Int) (k b m f : Nat) : Prop where
  good : Good xs k b m
  le : f ≤ k
  tail : Zr xs f (k - f)
  least : ∀ i, i ≤ k → Zr xs i (k - i) → f ≤ i
theorem Scan.start (xs : List Int) : Scan xs 0 0 0 0 :=
  ⟨⟨fun _ => rfl, Zr.zero _ _, Nat.le_refl _, fun i l h _ => by omega, fun i _ _ => Nat.zero_le _⟩, Nat.le_refl _, Zr.zero _ _, fun i _ _ => Nat.zero_le _⟩
theorem Scan.used {xs : List Int} {k b m f : Nat} {x : Int} (h : Scan xs k b m f) (hx : xs[k]? = some x) (h0 : x ≠ 0) : Scan xs (k + 1) b m (k + 1) := by
  have no : ∀ i l, i + l = k + 1 → Zr xs i l → l = 0 := fun i l hil hz => by
    rcases Nat.eq_zero_or_pos l with h1 | h1
    · exact h1
    · have := hz (l - 1) (by omega)
      rw [show i + (l - 1) = k by omega, hx] at this
      exact absurd (Option.some.inj this) h0
  refine ⟨⟨h.good.zero, h.good.run, Nat.le_succ_of_le h.good.fits, fun i l hil hz => ?_, fun i hil hz => ?_⟩, Nat.le_refl _, by rw [Nat.sub_self]; exact Zr.zero _ _, fun i hi hz => ?_⟩
  · by_cases e : i + l = k + 1
    · rw [no i l e hz]; exact Nat.zero_le _
    · exact h.good.most i l (by omega) hz
  · by_cases e : i + m = k + 1
    · have := no i m e hz
      rw [h.good.zero this]; exact Nat.zero_le _
    · exact h.good.first i (by omega) hz
  · have := no i (k + 1 - i) (by omega) hz
    omega
theorem Scan.longer {xs : List Int} {k b m f : Nat} (h : Scan xs k b m f) (hx : xs[k]? = some 0) (hl : m < k + 1 - f) : Scan xs (k + 1) f (k + 1 - f) f := by
  have hle := h.le
  have ht : Zr xs f (k + 1 - f) := by
    have := h.tail.snoc (by rw [show f + (k - f) = k by omega]; exact hx)
    rw [show k - f + 1 = k + 1 - f by omega] at this
    exact this
  have least : ∀ i, i ≤ k + 1 → Zr xs i (k + 1 - i) → f ≤ i := fun i hi hz => by
    by_cases e : i = k + 1
    · omega
    · exact h.least i (by omega) (hz.less (by omega))
  refine ⟨⟨fun e => by omega, ht, by omega, fun i l hil hz => ?_, fun i hil hz => ?_⟩, by omega, ht, least⟩
  · by_cases e : i + l = k + 1
    · have := least i (by omega) (by rw [show k + 1 - i = l by omega]; exact hz)
      omega
    · have := h.good.most i l (by omega) hz
      omega
  · by_cases e : i + (k + 1 - f) = k + 1
    · omega
    · have := h.good.most i _ (by omega) hz
      omega
theorem Scan.same {xs : List Int} {k b m f : Nat} (h : Scan xs k b m f) (hx : xs[k]? = some 0) (hl : ¬ m < k + 1 - f) : Scan xs (k + 1) b m f := by
  have hle := h.le
  have hfit := h.good.fits
  have ht : Zr xs f (k + 1 - f) := by
    have := h.tail.snoc (by rw [show f + (k - f) = k by omega]; exact hx)
    rw [show k - f + 1 = k + 1 - f by omega] at this
    exact this
  have least : ∀ i, i ≤ k + 1 → Zr xs i (k + 1 - i) → f ≤ i := fun i hi hz => by
    by_cases e : i = k + 1
    · omega
    · exact h.least i (by omega) (hz.less (by omega))
  refine ⟨⟨h.good.zero, h.good.run, by omega, fun i l hil hz => ?_, fun i hil hz => ?_⟩, by omega, ht, least⟩
  · by_cases e : i + l = k + 1
    · have := least i (by omega) (by rw [show k + 1 - i = l by omega]; exact hz)
      omega
    · exact h.good.most i l (by omega) hz
  · by_cases e : i + m = k + 1
    · have := least i (by omega) (by rw [show k + 1 - i = m by omega]; exact hz)
      omega
    · exact h.good.first i (by omega) hz

/-- as many free frames from i on as there are -/
structure MaxRun (xs : List Int) (i r : Nat) : Prop where
  run : Zr xs i r
  most : ∀ l, Zr xs i l → l ≤ r
theorem MaxRun.stop {xs : List Int} {i r : Nat} (h : Zr xs i r) (hx : xs[i + r]? ≠ some 0) : MaxRun xs i r :=
  ⟨h, fun l hl => by
    rcases Nat.lt_or_ge r l with h1 | h1
    · exact absurd (hl r h1) hx
    · exact h1⟩

/-- the loop that asks each frame for its run -/
structure Each (xs : List Int) (k b m : Nat) : Prop where
  zero : m = 0 → b = 0
  run : Zr xs b m
  le : b ≤ k
  most : ∀ i l, i < k → Zr xs i l → l ≤ m
  first : ∀ i, i < k → Zr xs i m → b ≤ i
theorem Each.start (xs : List Int) : Each xs 0 0 0 := ⟨fun _ => rfl, Zr.zero _ _, Nat.le_refl _, fun i l h _ => by omega, fun i h _ => by omega⟩
theorem Each.longer {xs : List Int} {k b m r : Nat} (h : Each xs k b m) (hr : MaxRun xs k r) (hl : m < r) : Each xs (k + 1) k r := by
  refine ⟨fun e => by omega, hr.run, by omega, fun i l hi hz => ?_, fun i hi hz => ?_⟩
  · by_cases e : i = k
    · subst e; exact hr.most l hz
    · have := h.most i l (by omega) hz
      omega
  · by_cases e : i = k
    · omega
    · have := h.most i r (by omega) hz
      omega
theorem Each.same {xs : List Int} {k b m r : Nat} (h : Each xs k b m) (hr : MaxRun xs k r) (hl : ¬ m < r) : Each xs (k + 1) b m := by
  have hle := h.le
  refine ⟨h.zero, h.run, by omega, fun i l hi hz => ?_, fun i hi hz => ?_⟩
  · by_cases e : i = k
    · subst e
      have := hr.most l hz
      omega
    · exact h.most i l (by omega) hz
  · by_cases e : i = k
    · omega
    · exact h.first i (by omega) hz
theorem Each.good {xs : List Int} {b m : Nat} (h : Each xs xs.length b m) : Good xs xs.length b m := by
  have hf : b + m ≤ xs.length := by
    rcases Nat.eq_zero_or_pos m with h1 | h1
    · rw [h1, h.zero h1]; omega
    · exact h.run.fits h1
  refine ⟨h.zero, h.run, hf, fun i l hil hz => ?_, fun i hil hz => ?_⟩
  · rcases Nat.eq_zero_or_pos l with h1 | h1
    · omega
    · exact h.most i l (by omega) hz
  · rcases Nat.eq_zero_or_pos m with h1 | h1
    · rw [h.zero h1]; exact Nat.zero_le _
    · exact h.first i (by omega) hz

/-- the answer for the longest free run -/
def LRes (own : Bool) (xs : List Int) (b m : Nat) (ok : Bool) : Prop := (own = false ∧ b = 0 ∧ m = 0 ∧ ok = false) ∨ (own = true ∧ Good xs xs.length b m ∧ ok = decide (0 < m))
theorem LRes.unique {own : Bool} {xs : List Int} {b m b' m' : Nat} {ok ok' : Bool} (h : LRes own xs b m ok) (h' : LRes own xs b' m' ok') : b = b' ∧ m = m' ∧ ok = ok' := by
  rcases h with ⟨h0, rfl, rfl, rfl⟩ | ⟨h0, hg, rfl⟩ <;> rcases h' with ⟨h1, rfl, rfl, rfl⟩ | ⟨h1, hg', rfl⟩
  · exact ⟨rfl, rfl, rfl⟩
  · rw [h0] at h1; cases h1
  · rw [h0] at h1; cases h1
  · obtain ⟨rfl, rfl⟩ := hg.unique hg'
    exact ⟨rfl, rfl, rfl⟩
end Go.Proofs.Ytppnmpkefchknaa
