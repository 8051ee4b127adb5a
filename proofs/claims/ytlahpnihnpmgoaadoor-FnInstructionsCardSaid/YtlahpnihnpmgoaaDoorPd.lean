/- Contracts for the program's ParseAssembly: strings.Split at a blank, slices.Index of a name, strings.TrimPrefix by their contracts; the fields from the numbers. Lengths at most 2^20. -/
import Derived.Test.YtlahpnihnpmgoaaDoorPp
import Derived.Test.YtlahpnihnpmgoaaDoorPc
import Derived.Test.YtlahpnihnpmgoaaDoorShelfP
import Derived.Test.YtlahpnihnpmgoaaDoorSe
import Derived.Test.YtlahpnihnpmgoaaDoorInts
namespace Go.Proofs.YtlahpnihnpmgoaaDoor
open Go.RowKit
set_option linter.unusedVariables false
set_option linter.unusedSimpArgs false

/-- the longest text that is sought as a whole, as the package keeps it -/
def Mx (w : World) : Prop := ∃ m : Int, w.cell? ⟨1, 0, none⟩ = some (.int .i64 m)
theorem Mx.keep {w w' : World} (h : Mx w) (hb : Below w.heap.size w w') : Mx w' := by
  obtain ⟨m, h⟩ := h
  exact ⟨m, (hb.cell (p := ⟨1, 0, none⟩) (World.block_lt_of_cell? _ _ h)).trans h⟩
theorem Mx.of {w : World} (h : w.ShapedOpen Tryd.prog) : Mx w := Tryd.laysM146.s1_3 w h
theorem split_any (l : List UInt8) (w : World) (hn : l.length ≤ 1048576) (hm : Mx w) :
    Calls Tryd.prog 29 #[.string ⟨l.toArray⟩, .string ⟨#[32]⟩] w fun e w' => e = .returned (.slice (some ⟨w.heap.size, 0, none⟩) (splitR 32 l).length (splitR 32 l).length) ∧ Rd w' 1 (some ⟨w.heap.size, 0, none⟩) (splitR 32 l).length (T (splitR 32 l)) ∧ Below w.heap.size w w' := by
  obtain ⟨m, hm⟩ := hm
  refine (Any.strings_Split { Tryd.laysM146 with } (by kernel_rfl) ⟨l.toArray⟩ ⟨#[32]⟩ m w (by show l.toArray.size < _; simp; omega) hm (by decide)).mono fun e w' ⟨he, hw⟩ => ?_
  subst hw
  rw [countB_R] at he
  have hT := splitB_R l 32
  refine ⟨he, ?_, below_alloc _ _⟩
  have h := Rd.newRow w ((Lib.splitB ⟨#[32]⟩ 0 (Lib.countB ⟨l.toArray⟩ ⟨#[32]⟩) ⟨l.toArray⟩).map Value.string).toArray 9 1 (splitR 32 l).length (by rw [hT]; simp [T_length])
  rw [hT] at h ⊢
  have h2 : Rd (w.alloc (.cells (T (splitR 32 l)).toArray 9)) 1 (some ⟨w.heap.size, 0, none⟩) (splitR 32 l).length (T (splitR 32 l)) := by simpa using h
  exact h2
theorem index_any (c : Nat) (x : List UInt8) (w : World) (hN : Nms w) :
    Calls Tryd.prog 30 #[.slice (some ⟨0, 0, none⟩) 10 c, .string ⟨x.toArray⟩] w fun e w' => e = .returned (.int .i64 (Lib.idxOfS (opN.map fun z => (⟨z.toArray⟩ : ByteArray)) ⟨x.toArray⟩)) ∧ w = w' := by
  refine (Tryd.slices_Index_string 0 0 10 c (opN.map fun z => (⟨z.toArray⟩ : ByteArray)) ⟨x.toArray⟩ w (by decide) (by decide) fun j hj => ?_).mono fun e w' ⟨he, hw⟩ => ⟨?_, hw.symm⟩
  · rw [List.length_map] at hj
    have h := hN.cell j opN[j] (List.getElem?_eq_getElem hj)
    rw [Nat.zero_add, h, List.getD_eq_getElem?_getD, List.getElem?_map, List.getElem?_eq_getElem hj]
    rfl
  · rw [he]; rfl
theorem trim_any (l : List UInt8) (w : World) :
    Calls Tryd.prog 33 #[.string ⟨l.toArray⟩, .string ⟨#[114]⟩] w fun e w' => e = .returned (.string ⟨(tkR l).toArray⟩) ∧ w = w' :=
  (Tryd.strings_TrimPrefix ⟨l.toArray⟩ ⟨#[114]⟩ w).mono fun e w' ⟨he, hw⟩ => ⟨by rw [he]; simp [tkR], hw.symm⟩
theorem tkR_len (l : List UInt8) : (tkR l).length ≤ l.length := by
  unfold tkR Lib.trimPrefix
  split
  · simp
  · exact Nat.le_refl _
/-- a slice's rest -/
theorem Rd.tailV {w : World} {n b o c : Nat} {x : Value} {xs : List Value} (h : Rd w 1 (some ⟨b, o, none⟩) n (x :: xs)) (hnc : n ≤ c) : Rd w 1 (if c = 1 then some ⟨b, o, none⟩ else some ⟨b, o + 1, none⟩) (n - 1) xs := by
  have hl : xs.length + 1 = n := by have := h.1; simp at this; omega
  refine ⟨by omega, fun hn => ?_⟩
  obtain ⟨b', o', e, hb, hc⟩ := h.2 (by omega)
  cases e
  rw [if_neg (by omega)]
  refine ⟨b, o + 1, rfl, hb, fun j u hu => ?_⟩
  have := hc (j + 1) u (by simpa using hu)
  rwa [show o + 1 + j = o + (j + 1) by omega]
theorem Rd.putX {w : World} {size n g p : Nat} {A : Option Addr} {xs : List Value} (h : Rd w size A n xs) (hg : blk A ≠ some g) (v : Value) : Rd (w.setCell ⟨g, p, none⟩ v) size A n xs := by
  refine ⟨h.1, fun hn => ?_⟩
  obtain ⟨b, o, rfl, hb, hc⟩ := h.2 hn
  refine ⟨b, o, rfl, by simpa using hb, fun j u hu => ?_⟩
  rw [← hc j u hu]
  exact World.cell?_of_block (w := w) (heap_setCell_other w ⟨g, p, none⟩ b v (fun e => hg (by rw [e]; rfl)))
theorem own_I {w : World} {B n c : Nat} {A : Option Addr} {D : List Int} {x : Int} (h : w.ownsRow B 3 1 (.slice A (n + 1) c) (n + 1) (I D ++ [.int .i64 x])) : Own w B (ti A (n + 1) c (D ++ [x])) := by
  have e : I (D ++ [x]) = I D ++ [.int .i64 x] := by simp [I]
  show w.ownsRow B _ 1 _ _ (I (D ++ [x]))
  rw [e]; exact h
/-- the fields behind i of them, and the numbers that are left -/
def ParS (o : Int) (nums : List Int) : Nat → Int → Int → Int → List Int → Prop
  | 0, a, b, n, r => a = 0 ∧ b = 0 ∧ n = 0 ∧ r = nums
  | 1, a, b, n, r => fld (uA o) nums = some (a, r) ∧ b = 0 ∧ n = 0
  | 2, a, b, n, r => ∃ r1, fld (uA o) nums = some (a, r1) ∧ fld (uB o) r1 = some (b, r) ∧ n = 0
  | _, a, b, n, r => ∃ r1 r2, fld (uA o) nums = some (a, r1) ∧ fld (uB o) r1 = some (b, r2) ∧ fld (uZ o) r2 = some (n, r)
end Go.Proofs.YtlahpnihnpmgoaaDoor
