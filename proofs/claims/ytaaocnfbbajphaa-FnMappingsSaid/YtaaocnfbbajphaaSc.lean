/- Things of the call's own besides the reader of choices: new ones, appends, stores. No conditions. -/
import Derived.Test.YtaaocnfbbajphaaCi
import Derived.Test.YtaaocnfbbajphaaSe
namespace Go.Proofs.Ytaaocnfbbajphaa
open Go.RowKit
set_option linter.unusedVariables false
set_option linter.unusedSimpArgs false

theorem blk_own {w : World} {B : Nat} {t : Thing} (h : Own w B t) : ∀ b, blk t.A = some b → B ≤ b := by
  intro b hb
  rcases h.2 with ⟨hv, _⟩ | ⟨g, cap, cur, hv, hB, _⟩
  · have hA : t.A = none := by injection hv
    rw [hA] at hb; cases hb
  · have hA : t.A = some ⟨g, 0, none⟩ := by injection hv
    rw [hA] at hb
    obtain rfl : g = b := by injection hb
    exact hB
theorem SepC.new {W0 w w' : World} {g k : Nat} {L : List Thing} (S : SepC W0 w g k L) (hb : Below w.heap.size w w') {t : Thing} (ho : Own w' w.heap.size t) : SepC W0 w' g k (L ++ [t]) :=
  ⟨S.sep.new hb ho, S.cu.below hb, fun u hu => by
    rcases List.mem_append.1 hu with h | h
    · exact S.far u h
    · obtain rfl := List.mem_singleton.1 h
      intro e
      have h1 := blk_own ho g e
      have h2 := S.cu.lt
      omega⟩
theorem SepC.below {W0 w w' : World} {g k : Nat} {L : List Thing} (S : SepC W0 w g k L) (hb : Below w.heap.size w w') : SepC W0 w' g k L := ⟨S.sep.below hb, S.cu.below hb, S.far⟩
/-- a block of the call's own grows, not the reader's -/
theorem Cu.grown {w w' : World} {B g k : Nat} {v : Option Nat} (h : Cu w B g k) (hg : w.grownBy w' v) (hv : v ≠ some g) (hB : ∀ b, v = some b → B ≤ b) : Cu w' B g k := by
  obtain ⟨h1, A, n, c, s, hx, h2, h3⟩ := h
  have hsz := hg.size
  refine ⟨h1, A, n, c, s, ⟨?_⟩, h2, fun hn => ?_⟩
  · rw [hg.block g hx.lt (fun e => hv e.symm)]
    exact hx.at_
  · obtain ⟨b, o, e, hb, hw, hc⟩ := h3 hn
    refine ⟨b, o, e, hb, Nat.lt_of_lt_of_le hw hsz, fun i hi => ?_⟩
    obtain ⟨u, hu⟩ := hc i hi
    refine ⟨u, ?_⟩
    rw [← hu]
    exact World.cell?_of_block (w := w) (hg.block b hw (fun e => by have := hB b e.symm; omega))
theorem SepC.app {W0 w w' : World} {g k : Nat} {L : List Thing} (S : SepC W0 w g k L) (i : Nat) {t t' : Thing} (h : L[i]? = some t) (hg : w.grownBy w' (blk t.A)) (hat : blk t'.A = blk t.A ∨ blk t'.A = some w.heap.size)
    (ho : Own w' W0.heap.size t') : SepC W0 w' g k (L.set i t') := by
  have hf := S.far t (List.mem_of_getElem? h)
  refine ⟨S.sep.app i h hg hat ho, S.cu.grown hg hf (fun b hb => blk_own (S.sep.own i t h) b hb), fun u hu => ?_⟩
  rcases List.mem_or_eq_of_mem_set hu with h2 | rfl
  · exact S.far u h2
  · rcases hat with e | e
    · rw [e]; exact hf
    · rw [e]
      intro h3
      have h4 := S.cu.lt
      injection h3 with h3
      omega
theorem SepC.write {W0 w w' : World} {g k : Nat} {L : List Thing} (S : SepC W0 w g k L) (i : Nat) {t : Thing} (h : L[i]? = some t) (hg : w.grownBy w' (blk t.A)) (xs' : List Value) (ho : Own w' W0.heap.size { t with xs := xs' }) : SepC W0 w' g k (L.set i { t with xs := xs' }) :=
  S.app i h hg (.inl rfl) ho
/-- one cell of a variable of the call's own is written -/
theorem SepC.put1 {W0 w : World} {g k : Nat} {L : List Thing} (S : SepC W0 w g k L) (i : Nat) {e : TypeId} {size gT : Nat} {xs : List Value} (h : L[i]? = some (bx e size gT xs)) (p : Nat) (u : Value) :
    SepC W0 (w.setCell ⟨gT, p, none⟩ u) g k (L.set i (bx e size gT (xs.set p u))) := by
  have hs := World.ownsRow.stored (S.sep.own i _ h) p u
  exact S.write i h hs.2 _ hs.1
theorem SepC.box {W0 w : World} {g k : Nat} {L : List Thing} (S : SepC W0 w g k L) (i : Nat) {e : TypeId} {size gT : Nat} {xs : List Value} (h : L[i]? = some (bx e size gT xs)) : ∀ j, w.cell? ⟨gT, j, none⟩ = xs.toArray[j]? := own_box (S.sep.own i _ h)
theorem SepC.free {W0 w : World} {g k : Nat} {L : List Thing} (S : SepC W0 w g k L) (i : Nat) {e : TypeId} {size gT : Nat} {xs : List Value} (h : L[i]? = some (bx e size gT xs)) : ∀ j, w.frozen? ⟨gT, j, none⟩ = false := own_free (S.sep.own i _ h)
theorem SepC.ltb {W0 w : World} {g k : Nat} {L : List Thing} (S : SepC W0 w g k L) (i : Nat) {e : TypeId} {size gT : Nat} {xs : List Value} (h : L[i]? = some (bx e size gT xs)) : gT < w.heap.size := own_lt (S.sep.own i _ h)
/-- a reader of a code, fresh, and nothing besides -/
theorem SepC.start {w : World} {A : Option Addr} {n c : Nat} (h : Code w w.heap.size A n) : SepC w (w.alloc (.cells #[.slice A n c, .int .i64 0, .int .u64 0] 60)) w.heap.size 0 [] :=
  ⟨(Sep.start w).below (below_alloc w _), Cu.new h, fun t ht => by cases ht⟩
end Go.Proofs.Ytaaocnfbbajphaa
