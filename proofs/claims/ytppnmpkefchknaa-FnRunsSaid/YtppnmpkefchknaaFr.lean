/- Contracts of the functions on owners with their results as letters. Lengths at most 2^20. -/
import Derived.Test.YtppnmpkefchknaaFp
import Derived.Test.YtppnmpkefchknaaFd
namespace Go.Proofs.Ytppnmpkefchknaa
open Go.RowKit
set_option linter.unusedVariables false
set_option linter.unusedSimpArgs false

section
variable {xs L L1 L2 : List Int} {g k f : Int} {b : Bool} {m m1 m2 : Nat} (A : Option Addr) (n c : Nat) (w : World) (hr : Rd w 1 A n (I xs)) (hn : n ≤ 1048576)
include hr hn
theorem i_GrantFrames_b (hb : grantOk xs g k = b) (h1 : selL b (grantL xs g k) = L1) (h2 : selL b (grantF xs k) = L2) (e1 : L1.length = m1) (e2 : L2.length = m2) :
    Calls Try.prog 16 #[.slice A n c, .int .i64 g, .int .i64 k] w fun e w' => ∃ A' c' A2' c2', e = .returned (.tuple #[.slice A' m1 c', .slice A2' m2 c2', .bool b]) ∧ Own w' w.heap.size (ti A' m1 c' L1) ∧ Own w' w.heap.size (ti A2' m2 c2' L2) ∧ (blk A' = none ∨ blk A' ≠ blk A2') ∧ Below w.heap.size w w' := by
  subst e1; subst e2; subst h1; subst h2; subst hb; exact i_GrantFrames_any A n c xs g k w hr hn
theorem s_GrantFrames_b (hb : grantOk xs g k = b) (h1 : selL b (grantL xs g k) = L1) (h2 : selL b (grantF xs k) = L2) (e1 : L1.length = m1) (e2 : L2.length = m2) :
    Calls Try.prog 17 #[.slice A n c, .int .i64 g, .int .i64 k] w fun e w' => ∃ A' c' A2' c2', e = .returned (.tuple #[.slice A' m1 c', .slice A2' m2 c2', .bool b]) ∧ Own w' w.heap.size (ti A' m1 c' L1) ∧ Own w' w.heap.size (ti A2' m2 c2' L2) ∧ (blk A' = none ∨ blk A' ≠ blk A2') ∧ Below w.heap.size w w' := by
  subst e1; subst e2; subst h1; subst h2; subst hb; exact s_GrantFrames_any A n c xs g k w hr hn
theorem i_TakeFrame_b (hb : takeOk xs g f = b) (h1 : selL b (takeL xs f) = L) (e1 : L.length = m) :
    Calls Try.prog 19 #[.slice A n c, .int .i64 g, .int .i64 f] w fun e w' => ∃ A' c', e = .returned (.tuple #[.slice A' m c', .bool b]) ∧ Own w' w.heap.size (ti A' m c' L) ∧ Below w.heap.size w w' := by
  subst e1; subst h1; subst hb; exact i_TakeFrame_any A n c xs g f w hr hn
theorem s_TakeFrame_b (hb : takeOk xs g f = b) (h1 : selL b (takeL xs f) = L) (e1 : L.length = m) :
    Calls Try.prog 21 #[.slice A n c, .int .i64 g, .int .i64 f] w fun e w' => ∃ A' c', e = .returned (.tuple #[.slice A' m c', .bool b]) ∧ Own w' w.heap.size (ti A' m c' L) ∧ Below w.heap.size w w' := by
  subst e1; subst h1; subst hb; exact s_TakeFrame_any A n c xs g f w hr hn
theorem i_FramesOf_b (hb : framesOk xs g = b) (h1 : selL b (framesL xs g) = L) (e1 : L.length = m) :
    Calls Try.prog 23 #[.slice A n c, .int .i64 g] w fun e w' => ∃ A' c', e = .returned (.tuple #[.slice A' m c', .bool b]) ∧ Own w' w.heap.size (ti A' m c' L) ∧ Below w.heap.size w w' := by
  subst e1; subst h1; subst hb; exact i_FramesOf_any A n c xs g w hr hn
theorem s_FramesOf_b (hb : framesOk xs g = b) (h1 : selL b (framesL xs g) = L) (e1 : L.length = m) :
    Calls Try.prog 24 #[.slice A n c, .int .i64 g] w fun e w' => ∃ A' c', e = .returned (.tuple #[.slice A' m c', .bool b]) ∧ Own w' w.heap.size (ti A' m c' L) ∧ Below w.heap.size w w' := by
  subst e1; subst h1; subst hb; exact s_FramesOf_any A n c xs g w hr hn
theorem i_FreeGuest_b (hb : freeOk xs g = b) (h1 : selL b (freeL xs g) = L) (e1 : L.length = m) (h2 : selI b (framesL xs g).length = f) :
    Calls Try.prog 44 #[.slice A n c, .int .i64 g] w fun e w' => ∃ A' c', e = .returned (.tuple #[.slice A' m c', .int .i64 f, .bool b]) ∧ Own w' w.heap.size (ti A' m c' L) ∧ Below w.heap.size w w' := by
  subst e1; subst h1; subst h2; subst hb; exact i_FreeGuest_any A n c xs g w hr hn
theorem s_FreeGuest_b (hb : freeOk xs g = b) (h1 : selL b (freeL xs g) = L) (e1 : L.length = m) (h2 : selI b (framesL xs g).length = f) :
    Calls Try.prog 45 #[.slice A n c, .int .i64 g] w fun e w' => ∃ A' c', e = .returned (.tuple #[.slice A' m c', .int .i64 f, .bool b]) ∧ Own w' w.heap.size (ti A' m c' L) ∧ Below w.heap.size w w' := by
  subst e1; subst h1; subst h2; subst hb; exact s_FreeGuest_any A n c xs g w hr hn
theorem i_OwnersText_b {t : List UInt8} (hb : ownB xs = b) (ht : selS b (textL xs) = ⟨t.toArray⟩) :
    Calls Try.prog 28 #[.slice A n c] w fun e w' => e = .returned (.tuple #[.string ⟨t.toArray⟩, .bool b]) ∧ Below w.heap.size w w' := by
  rw [← ht]; subst hb; exact i_OwnersText_any A n c xs w hr hn
theorem s_OwnersText_b {t : List UInt8} (hb : ownB xs = b) (ht : selS b (textL xs) = ⟨t.toArray⟩) :
    Calls Try.prog 30 #[.slice A n c] w fun e w' => e = .returned (.tuple #[.string ⟨t.toArray⟩, .bool b]) ∧ Below w.heap.size w w' := by
  rw [← ht]; subst hb; exact s_OwnersText_any A n c xs w hr hn
end
section
variable {l : List UInt8} {L : List Int} {b : Bool} {m : Nat} (w : World) (hn : l.length ≤ 1048576)
include hn
theorem i_ParseOwners_b (hb : parOk l = b) (h1 : selL b (parL l) = L) (e1 : L.length = m) :
    Calls Try.prog 29 #[.string ⟨l.toArray⟩] w fun e w' => ∃ A' c', e = .returned (.tuple #[.slice A' m c', .bool b]) ∧ Own w' w.heap.size (ti A' m c' L) ∧ Below w.heap.size w w' := by
  subst e1; subst h1; subst hb; exact i_ParseOwners_any l w hn
theorem s_ParseOwners_b (hb : parOk l = b) (h1 : selL b (parL l) = L) (e1 : L.length = m) :
    Calls Try.prog 32 #[.string ⟨l.toArray⟩] w fun e w' => ∃ A' c', e = .returned (.tuple #[.slice A' m c', .bool b]) ∧ Own w' w.heap.size (ti A' m c' L) ∧ Below w.heap.size w w' := by
  subst e1; subst h1; subst hb; exact s_ParseOwners_any l w hn
end
set_option maxHeartbeats 400000 in
theorem l2AreOwners_eq (A : Option Addr) (n c : Nat) (xs : List Int) (w : World) (hr : Rd w 1 A n (I xs)) (hn : n ≤ 4503599627370496) (r : Bool) (hR : ownB xs = r) :
    Calls Try.prog 26 #[.slice A n c] w fun e w' => e = .returned (.bool r) ∧ Below w.heap.size w w' := by
  go_enter Try.func26, Try.ntmps26
  go_wp2_with fail
  refine (l2Good_eq A n c xs _ hr hn r hR).mono ?_
  rintro e w1 ⟨rfl, rfl⟩
  go_wp2
  go_ret
  exact ⟨rfl, Below.refl _ _⟩
theorem selS_mk (b : Bool) (l : List UInt8) : ∃ t : List UInt8, selS b l = ⟨t.toArray⟩ ∧ (b = true → t = l) ∧ t.length ≤ l.length := by
  cases b
  · exact ⟨[], rfl, fun h => (by cases h), Nat.zero_le _⟩
  · exact ⟨l, rfl, fun _ => rfl, Nat.le_refl _⟩
theorem selL_len {b : Bool} {l : List Int} {K : Nat} (h : l.length ≤ K) : (selL b l).length ≤ K := by
  unfold selL
  split
  · exact h
  · exact Nat.zero_le _
end Go.Proofs.Ytppnmpkefchknaa
