/- Plain facts on owners: frames granted and taken back, frames of all guests together, owners out of their text. Nothing of the program is called. No conditions. -/
import Derived.Test.YtppnmpkefchknaaFe
import Derived.Test.YtppnmpkefchknaaFi
namespace Go.Proofs.Ytppnmpkefchknaa
open Go.RowKit
set_option linter.unusedVariables false
set_option linter.unusedSimpArgs false

theorem setL_get {g : Int} : ∀ {fs : List Int} (xs : List Int) (j : Nat), (∀ f ∈ fs, 0 ≤ f) → (setL xs fs g)[j]? = if (j : Int) ∈ fs then (if j < xs.length then some g else none) else xs[j]?
  | [], xs, j, _ => by simp [setL]
  | f :: fs, xs, j, h0 => by
    have hf := h0 f (List.mem_cons_self ..)
    show (setL (xs.set f.toNat g) fs g)[j]? = _
    rw [setL_get (fs := fs) _ j (fun x hx => h0 x (List.mem_cons_of_mem _ hx)), List.length_set, List.getElem?_set]
    by_cases h1 : (j : Int) ∈ fs
    · rw [if_pos h1, if_pos (List.mem_cons_of_mem _ h1)]
    · rw [if_neg h1]
      by_cases h2 : f.toNat = j
      · have h3 : (j : Int) ∈ f :: fs := by
          have : (j : Int) = f := by omega
          rw [this]; exact List.mem_cons_self ..
        rw [if_pos h3]
        simp [h2]
      · have h3 : ¬ (j : Int) ∈ f :: fs := fun e => by
          rcases List.mem_cons.1 e with e | e
          · omega
          · exact h1 e
        rw [if_neg h2, if_neg h3]
theorem framesL_mem {xs : List Int} {g : Int} {j : Nat} : (j : Int) ∈ framesL xs g ↔ xs[j]? = some g := by
  unfold framesL upTo
  rw [List.mem_map]
  constructor
  · rintro ⟨i, hi, e⟩
    obtain rfl : i = j := by omega
    have := (List.mem_filter.1 hi).2
    simpa using this
  · intro h
    exact ⟨j, List.mem_filter.2 ⟨List.mem_range.2 (List.getElem?_eq_some_iff.1 h).1, by simp [h]⟩, rfl⟩
theorem framesL_nodup (xs : List Int) (g : Int) : (framesL xs g).Nodup := by
  unfold framesL upTo
  have h : ((List.range xs.length).filter fun i => xs[i]? == some g).Nodup := List.Nodup.sublist List.filter_sublist List.nodup_range
  have h2 := List.Pairwise.map (S := fun a b : Int => a ≠ b) (fun i : Nat => (i : Int)) (fun a b hab e => hab (by omega)) h
  exact h2
theorem grantF_nodup (xs : List Int) (k : Int) : (grantF xs k).Nodup := List.Nodup.sublist (List.take_sublist ..) (framesL_nodup xs 0)
theorem nodup_at {l : List Int} (h : l.Nodup) {i : Nat} {x : Int} (hx : l[i]? = some x) : ¬ x ∈ l.take i := by
  have h1 := List.Nodup.sublist (List.take_sublist (i + 1) l) h
  rw [List.take_add_one, hx] at h1
  intro hm
  have := (List.nodup_append.1 h1).2.2 x hm x (by simp)
  exact this rfl
theorem ownB_iff {xs : List Int} : ownB xs = true ↔ 1 ≤ xs.length ∧ xs.length ≤ 16 ∧ ∀ x ∈ xs, 0 ≤ x ∧ x ≤ 4 := by
  unfold ownB
  rw [Bool.and_eq_true, inB_iff]
  constructor
  · rintro ⟨⟨h1, h2⟩, h3⟩
    refine ⟨by omega, by omega, fun x hx => ?_⟩
    have h4 : xs.any (fun x => !inB x 0 4) = false := by simpa using h3
    have h5 := List.any_eq_false.1 h4 x hx
    exact inB_iff.1 (by simpa using h5)
  · rintro ⟨h1, h2, h3⟩
    refine ⟨⟨by omega, by omega⟩, ?_⟩
    have : xs.any (fun x => !inB x 0 4) = false := List.any_eq_false.2 fun x hx => by
      have := inB_iff.2 (h3 x hx)
      simp [this]
    simp [this]
theorem ownB_set {xs : List Int} (h : ownB xs = true) (k : Nat) {g : Int} (hg : 0 ≤ g ∧ g ≤ 4) : ownB (xs.set k g) = true := by
  obtain ⟨h1, h2, h3⟩ := ownB_iff.1 h
  refine ownB_iff.2 ⟨by simpa using h1, by simpa using h2, fun x hx => ?_⟩
  rcases List.mem_or_eq_of_mem_set hx with e | e
  · exact h3 x e
  · rw [e]; exact hg
theorem ownB_setL {g : Int} (hg : 0 ≤ g ∧ g ≤ 4) : ∀ {fs xs : List Int}, ownB xs = true → ownB (setL xs fs g) = true
  | [], xs, h => h
  | f :: fs, xs, h => ownB_setL (fs := fs) hg (ownB_set h f.toNat hg)

/-- i granted frames are taken back -/
def bkL (xs fs : List Int) (g : Int) (i : Nat) : List Int := setL (setL xs fs g) (fs.take i) 0
theorem bkL_len (xs fs : List Int) (g : Int) (i : Nat) : (bkL xs fs g i).length = xs.length := by rw [bkL, setL_len, setL_len]
theorem bkL_zero (xs fs : List Int) (g : Int) : bkL xs fs g 0 = setL xs fs g := rfl
theorem bkL_succ {xs fs : List Int} {g f : Int} {i : Nat} (h : fs[i]? = some f) : takeL (bkL xs fs g i) f = bkL xs fs g (i + 1) := by
  rw [bkL, bkL, List.take_add_one, h]
  exact (setL_snoc _ _ _ _).symm
theorem grant_parts {xs : List Int} {g k : Int} (h : grantOk xs g k = true) : ownB xs = true ∧ (1 ≤ g ∧ g ≤ 4) ∧ 0 ≤ k ∧ k ≤ ((framesL xs 0).length : Int) := by
  unfold grantOk at h
  rw [Bool.and_eq_true, Bool.and_eq_true, inB_iff, inB_iff] at h
  exact h
theorem grant_count {xs : List Int} {g k : Int} (h : grantOk xs g k = true) : ((grantF xs k).length : Int) = k := by
  obtain ⟨_, _, h0, h1⟩ := grant_parts h
  unfold grantF
  rw [List.length_take]
  omega
theorem grant_zero {xs : List Int} {k f : Int} (h : f ∈ grantF xs k) : ∃ j : Nat, f = j ∧ j < xs.length ∧ xs[j]? = some 0 := by
  have h0 := grantF_lt f h
  obtain ⟨j, rfl⟩ := Int.eq_ofNat_of_zero_le h0.1
  exact ⟨j, rfl, by omega, framesL_mem.1 (List.mem_of_mem_take h)⟩
/-- each granted frame can be taken back -/
theorem take_back {xs : List Int} {g k f : Int} {i : Nat} (h : grantOk xs g k = true) (hf : (grantF xs k)[i]? = some f) : takeOk (bkL xs (grantF xs k) g i) g f = true := by
  obtain ⟨ho, hg, _, _⟩ := grant_parts h
  obtain ⟨j, rfl, hj, _⟩ := grant_zero (List.mem_of_getElem? hf)
  have hm := List.mem_of_getElem? hf
  have hn := nodup_at (grantF_nodup xs k) hf
  have h0 : ∀ f ∈ grantF xs k, 0 ≤ f := fun f hf => (grantF_lt f hf).1
  have h1 : (bkL xs (grantF xs k) g i)[j]? = some g := by
    rw [bkL, setL_get _ _ (fun f hf => h0 f (List.mem_of_mem_take hf)), if_neg hn, setL_get _ _ h0, if_pos hm, if_pos hj]
  have h2 : ownB (bkL xs (grantF xs k) g i) = true := ownB_setL (by omega) (ownB_setL (by omega) ho)
  unfold takeOk
  rw [h2, inB_iff.2 hg, bkL_len, inB_iff.2 ⟨by omega, by omega⟩, Int.toNat_natCast, h1]
  simp
/-- all taken back, the owners are as before -/
theorem back_all {xs : List Int} {g k : Int} {i : Nat} (hi : (grantF xs k).length ≤ i) : bkL xs (grantF xs k) g i = xs := by
  have h0 : ∀ f ∈ grantF xs k, 0 ≤ f := fun f hf => (grantF_lt f hf).1
  apply List.ext_getElem?
  intro j
  rw [bkL, List.take_of_length_le hi, setL_get _ _ h0]
  split
  · rename_i hm
    obtain ⟨j', e, hj, hz⟩ := grant_zero hm
    obtain rfl : j = j' := by omega
    rw [if_pos (by rw [setL_len]; exact hj), hz]
  · rename_i hm
    rw [setL_get _ _ h0, if_neg hm]

/-- how many frames a guest has -/
theorem upTo_count (xs : List Int) (g : Int) : ∀ k, k ≤ xs.length → (upTo xs g k).length = (xs.take k).count g
  | 0, _ => by simp [upTo]
  | k + 1, hk => by
    have hx : xs[k]? = some xs[k] := List.getElem?_eq_getElem (by omega)
    have ih := upTo_count xs g k (by omega)
    rw [List.take_add_one, hx, List.count_append]
    by_cases e : xs[k] = g
    · rw [upTo_hit (by rw [hx, e]), List.length_append, ih]
      simp [e]
    · rw [upTo_miss hx e, ih]
      simp [e]
theorem framesL_count (xs : List Int) (g : Int) : (framesL xs g).length = xs.count g := by
  rw [framesL, upTo_count xs g _ (Nat.le_refl _), List.take_length]
theorem count_all : ∀ {xs : List Int}, (∀ x ∈ xs, 0 ≤ x ∧ x ≤ 4) → xs.count 0 + xs.count 1 + xs.count 2 + xs.count 3 + xs.count 4 = xs.length
  | [], _ => rfl
  | x :: xs, h => by
    have ih := count_all (xs := xs) (fun y hy => h y (List.mem_cons_of_mem _ hy))
    have hx := h x (List.mem_cons_self ..)
    have hx5 : x = 0 ∨ x = 1 ∨ x = 2 ∨ x = 3 ∨ x = 4 := by omega
    simp only [List.count_cons, List.length_cons]
    rcases hx5 with rfl | rfl | rfl | rfl | rfl <;> simp <;> omega
/-- the frames of the guests below k, counted -/
def fsum (xs : List Int) : Nat → Nat
  | 0 => 0
  | k + 1 => fsum xs k + (framesL xs (k : Int)).length
theorem fsum_all {xs : List Int} (h : ownB xs = true) : fsum xs 5 = xs.length := by
  obtain ⟨_, _, h3⟩ := ownB_iff.1 h
  rw [← count_all h3]
  simp only [fsum, framesL_count]
  simp
theorem fsum_le (xs : List Int) : ∀ k, fsum xs k ≤ k * xs.length
  | 0 => by simp [fsum]
  | k + 1 => by
    have := fsum_le xs k
    have := framesL_len (xs := xs) (g := (k : Int))
    rw [fsum, Nat.succ_mul]
    omega

theorem par_text {xs : List Int} (h : ownB xs = true) : parL (textL xs) = xs ∧ parOk (textL xs) = true := by
  obtain ⟨h1, h2, h3⟩ := ownB_iff.1 h
  have e : parL (textL xs) = xs := by
    unfold parL textL
    rw [List.map_map]
    refine (List.map_congr_left (g := id) fun x hx => ?_).trans (List.map_id _)
    have hx4 := h3 x hx
    have hx5 : x = 0 ∨ x = 1 ∨ x = 2 ∨ x = 3 ∨ x = 4 := by omega
    rcases hx5 with rfl | rfl | rfl | rfl | rfl <;> rfl
  refine ⟨e, ?_⟩
  unfold parOk
  rw [e, h, textL_len]
  simp [h2]
end Go.Proofs.Ytppnmpkefchknaa
