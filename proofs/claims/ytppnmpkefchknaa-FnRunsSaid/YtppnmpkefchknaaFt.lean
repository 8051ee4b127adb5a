/- Contracts of GrantRun, CompactMoves with their results as letters. Lengths at most 2^20. -/
import Derived.Test.YtppnmpkefchknaaFq
import Derived.Test.YtppnmpkefchknaaFr
import Derived.Test.YtppnmpkefchknaaCb
import Derived.Test.YtppnmpkefchknaaFf
namespace Go.Proofs.Ytppnmpkefchknaa
open Go.RowKit
set_option linter.unusedVariables false
set_option linter.unusedSimpArgs false

section
variable {xs L : List Int} {M : List RA2} {g k f : Int} {b : Bool} {m q : Nat} (A : Option Addr) (n c : Nat) (w : World) (hr : Rd w 1 A n (I xs)) (hn : n ≤ 1048576)
include hr hn
theorem i_GrantRun_b (hnc : n ≤ c) (hb : grOk xs g k = b) (h1 : selL b (grL xs g k) = L) (e1 : L.length = m) (h2 : selI b (grI xs k) = f) :
    Calls Try.prog 36 #[.slice A n c, .int .i64 g, .int .i64 k] w fun e w' => ∃ A' c', e = .returned (.tuple #[.slice A' m c', .int .i64 f, .bool b]) ∧ Own w' w.heap.size (ti A' m c' L) ∧ Below w.heap.size w w' := by
  subst e1; subst h1; subst h2; subst hb; exact i_GrantRun_any A n c xs g k w hr hn hnc
theorem s_GrantRun_b (hb : grOk xs g k = b) (h1 : selL b (grL xs g k) = L) (e1 : L.length = m) (h2 : selI b (grI xs k) = f) :
    Calls Try.prog 38 #[.slice A n c, .int .i64 g, .int .i64 k] w fun e w' => ∃ A' c', e = .returned (.tuple #[.slice A' m c', .int .i64 f, .bool b]) ∧ Own w' w.heap.size (ti A' m c' L) ∧ Below w.heap.size w w' := by
  subst e1; subst h1; subst h2; subst hb; exact s_GrantRun_any A n c xs g k w hr hn
theorem i_CompactMoves_b (hb : ownB xs = b) (h1 : selA b (cmF xs.length xs).1 = M) (e1 : M.length = q) (h2 : selL b (cmF xs.length xs).2 = L) (e2 : L.length = m) :
    Calls Try.prog 40 #[.slice A n c] w fun e w' => ∃ B0 d0 B1 d1, e = .returned (.tuple #[.slice B0 q d0, .slice B1 m d1, .bool b]) ∧
      Own w' w.heap.size (tsA2 B0 q d0 M) ∧ Own w' w.heap.size (ti B1 m d1 L) ∧ (blk B0 = none ∨ blk B0 ≠ blk B1) ∧ Below w.heap.size w w' := by
  subst e1; subst e2; subst h1; subst h2; subst hb; exact i_CompactMoves_any A n c xs w hr hn
theorem s_CompactMoves_b (hb : ownB xs = b) (h1 : selA b (cmF xs.length xs).1 = M) (e1 : M.length = q) (h2 : selL b (cmF xs.length xs).2 = L) (e2 : L.length = m) :
    Calls Try.prog 41 #[.slice A n c] w fun e w' => ∃ B0 d0 B1 d1, e = .returned (.tuple #[.slice B0 q d0, .slice B1 m d1, .bool b]) ∧
      Own w' w.heap.size (tsA2 B0 q d0 M) ∧ Own w' w.heap.size (ti B1 m d1 L) ∧ (blk B0 = none ∨ blk B0 ≠ blk B1) ∧ Below w.heap.size w w' := by
  subst e1; subst e2; subst h1; subst h2; subst hb; exact s_CompactMoves_any A n c xs w hr hn
end
theorem selA_len {α : Type} {b : Bool} {l : List α} {K : Nat} (h : l.length ≤ K) : (selA b l).length ≤ K := by
  unfold selA
  split
  · exact h
  · exact Nat.zero_le _
end Go.Proofs.Ytppnmpkefchknaa
