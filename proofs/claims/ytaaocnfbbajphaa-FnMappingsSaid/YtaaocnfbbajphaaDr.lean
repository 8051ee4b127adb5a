/- Words on the reader of choices: what a drawing function leaves. No conditions. -/
import Derived.Test.YtaaocnfbbajphaaSc
namespace Go.Proofs.Ytaaocnfbbajphaa
open Go.RowKit
set_option linter.unusedVariables false
set_option linter.unusedSimpArgs false

/-- the reader has gone on; besides, what was there is as it was -/
structure Rw (B : Nat) (w : World) (g k : Nat) (wx : World) : Prop where
  lt : g < w.heap.size
  far : Far g w wx
  cu : Cu wx B g k
section
variable {B g k k' : Nat} {w wx wy : World}
theorem Rw.start (h : Cu w B g k) : Rw B w g k w := ⟨h.lt, Far.refl _ _, h⟩
theorem Rw.step (R : Rw B w g k wx) (hc : Cu wy B g k') (hf : Far g wx wy) : Rw B w g k' wy := ⟨R.lt, R.far.trans hf, hc⟩
theorem Rw.below (R : Rw B w g k wx) (hb : Below wx.heap.size wx wy) : Rw B w g k wy := ⟨R.lt, R.far.trans (Far.of_below hb), R.cu.below hb⟩
theorem Rw.alloc (R : Rw B w g k wx) (o : Obj) : Rw B w g k (wx.alloc o) := R.below (below_alloc wx o)
theorem Rw.drew (R : Rw B w g k wx) : Rw B w g k wx.drew := R.below (Below.drew (Below.refl _ _))
theorem Rw.size (R : Rw B w g k wx) : w.heap.size ≤ wx.heap.size := R.far.1.size
theorem far_grown {r : Option Nat} (h : Far g w wx) (hg : wx.grownBy wy r) (hr : ∀ b, r = some b → w.heap.size ≤ b) : Far g w wy :=
  ⟨⟨hg.os.trans h.1.os, hg.tape.trans h.1.tape, hg.output.trans h.1.output, Nat.le_trans h.1.size hg.size, fun b hb => absurd hb (Nat.not_lt_zero _)⟩,
    fun b hb hl => (hg.block b (Nat.lt_of_lt_of_le hl h.1.size) (fun e => absurd (hr b e.symm) (by omega))).trans (h.2 b hb hl)⟩
/-- memory of the call's own grows -/
theorem Rw.grown (R : Rw B w g k wx) {r : Option Nat} (hg : wx.grownBy wy r) (hr : ∀ b, r = some b → w.heap.size ≤ b) : Rw B w g k wy :=
  ⟨R.lt, far_grown R.far hg hr, R.cu.grown hg (fun e => by have := hr g e; have := R.lt; omega) (fun b e => by have := hr b e; have := R.lt; have := R.cu.1; omega)⟩
theorem grown_put (b p : Nat) (u : Value) : wx.grownBy (wx.setCell ⟨b, p, none⟩ u) (some b) := by
  have h : Below 0 wx (wx.setCell ⟨b, p, none⟩ u) := (Below.refl 0 wx).setCell (Nat.zero_le _) u
  exact ⟨h.os, h.tape, h.output, h.size, fun j _ hr => heap_setCell_other wx ⟨b, p, none⟩ j u (fun e => hr (by rw [e]))⟩
theorem Rw.put (R : Rw B w g k wx) {b : Nat} (hb : w.heap.size ≤ b) (p : Nat) (u : Value) : Rw B w g k (wx.setCell ⟨b, p, none⟩ u) :=
  R.grown (grown_put b p u) (fun x e => by cases e; exact hb)
theorem Box.farC {t : TypeId} {cs : Array Value} {b : Nat} (h : Box wx b t cs) (hf : Far g wx wy) (hb : b ≠ g) : Box wy b t cs := ⟨(hf.2 b hb h.lt).trans h.at_⟩
/-- a variable of the call's own, besides the reader -/
structure Bv (w : World) (g : Nat) (wx : World) (b : Nat) (t : TypeId) (cs : Array Value) : Prop where
  lo : w.heap.size ≤ b
  ne : b ≠ g
  box : Box wx b t cs
theorem Bv.new {t : TypeId} (R : Rw B w g k wx) (cs : Array Value) : Bv w g (wx.alloc (.cells cs t)) wx.heap.size t cs :=
  ⟨R.size, by have := R.cu.lt; omega, Box.new wx t cs⟩
theorem Bv.step {t : TypeId} {cs : Array Value} {b : Nat} (X : Bv w g wx b t cs) (hf : Far g wx wy) : Bv w g wy b t cs := ⟨X.lo, X.ne, X.box.farC hf X.ne⟩
theorem Bv.below {t : TypeId} {cs : Array Value} {b : Nat} (X : Bv w g wx b t cs) (hb : Below wx.heap.size wx wy) : Bv w g wy b t cs := ⟨X.lo, X.ne, X.box.keep hb⟩
theorem Bv.alloc {t : TypeId} {cs : Array Value} {b : Nat} (X : Bv w g wx b t cs) (o : Obj) : Bv w g (wx.alloc o) b t cs := X.below (below_alloc wx o)
theorem Bv.put {t : TypeId} {cs : Array Value} {b : Nat} (X : Bv w g wx b t cs) (p : Nat) (u : Value) : Bv w g (wx.setCell ⟨b, p, none⟩ u) b t (cs.setIfInBounds p u) := ⟨X.lo, X.ne, X.box.put p u⟩
theorem Bv.other {t : TypeId} {cs : Array Value} {b b' p : Nat} (X : Bv w g wx b t cs) (h : b ≠ b') (u : Value) : Bv w g (wx.setCell ⟨b', p, none⟩ u) b t cs := ⟨X.lo, X.ne, X.box.far (a := ⟨b', p, none⟩) h u⟩
theorem Bv.cell {t : TypeId} {cs : Array Value} {b : Nat} (X : Bv w g wx b t cs) : ∀ i, wx.cell? ⟨b, i, none⟩ = cs[i]? := X.box.cell
theorem Bv.free {t : TypeId} {cs : Array Value} {b : Nat} (X : Bv w g wx b t cs) : ∀ i, wx.frozen? ⟨b, i, none⟩ = false := X.box.free
end
end Go.Proofs.Ytaaocnfbbajphaa
