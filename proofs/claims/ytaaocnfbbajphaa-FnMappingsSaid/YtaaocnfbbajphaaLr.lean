/- A list of the call's own besides the reader of choices. No conditions. -/
import Derived.Test.YtaaocnfbbajphaaDr
namespace Go.Proofs.Ytaaocnfbbajphaa
open Go.RowKit
set_option linter.unusedVariables false
set_option linter.unusedSimpArgs false

/-- the reader has gone on, a list of the call's own lies besides -/
structure Lr (B : Nat) (w : World) (g k : Nat) (wx : World) (t : Thing) : Prop where
  rw : Rw B w g k wx
  own : Own wx w.heap.size t
section
variable {B : Nat} {w : World} {g k k' : Nat} {wx wy : World} {t t' : Thing}
theorem Lr.ne (L : Lr B w g k wx t) : blk t.A ≠ some g := fun e => by have := blk_own L.own g e; have := L.rw.lt; omega
theorem Lr.step (L : Lr B w g k wx t) (hc : Cu wy B g k') (hf : Far g wx wy) : Lr B w g k' wy t := ⟨L.rw.step hc hf, own_far L.own hf L.ne⟩
theorem Lr.alloc (L : Lr B w g k wx t) (o : Obj) : Lr B w g k (wx.alloc o) t := ⟨L.rw.alloc o, World.ownsRow.alloc L.own o⟩
theorem Lr.below (L : Lr B w g k wx t) (hb : Below wx.heap.size wx wy) : Lr B w g k wy t :=
  ⟨L.rw.below hb, World.ownsRow.kept (row := none) L.own (grown_of_below hb _) (by cases hA : t.A <;> simp [ownBlock_slice, blk])⟩
theorem Lr.app (L : Lr B w g k wx t) (hg : wx.grownBy wy (blk t.A)) (ho : Own wy w.heap.size t') : Lr B w g k wy t' := ⟨L.rw.grown hg (blk_own L.own), ho⟩
theorem Lr.fresh (R : Rw B w g k wx) {t2 : Thing} (ho : Own wx w.heap.size t2) : Lr B w g k wx t2 := ⟨R, ho⟩
end
def lenSl : Value → Nat
  | .slice _ l _ => l
  | _ => 0
theorem own_int {w : World} {B n c : Nat} {A : Option Addr} {xs : List Int} {x : Int} (h : w.ownsRow B 3 1 (.slice A (n + 1) c) (n + 1) (I xs ++ [.int .i64 x])) : Own w B (ti A (n + 1) c (xs ++ [x])) := by
  show w.ownsRow B _ 1 _ _ (I (xs ++ [x]))
  rw [I_append]; exact h
end Go.Proofs.Ytaaocnfbbajphaa
