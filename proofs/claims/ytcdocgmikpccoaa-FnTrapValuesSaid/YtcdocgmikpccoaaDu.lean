/- Contracts of what is drawn for the laws of traps: DrawIsTrap, DrawSyndrome, DrawTrapOf. The code of at most 65536 bytes. -/
import Derived.Test.YtcdocgmikpccoaaDt
import Derived.Test.YtcdocgmikpccoaaTb
namespace Go.Proofs.Ytcdocgmikpccoaa
open Go.RowKit
set_option linter.unusedVariables false
set_option linter.unusedSimpArgs false

theorem Code.up {w w' : World} {B B' n : Nat} {A : Option Addr} (h : Code w B A n) (hb : Below w.heap.size w w') (hB : B ≤ B') : Code w' B' A n :=
  ⟨h.1, fun hn => by
    obtain ⟨b, o, e, h1, h2, h3⟩ := h.2 hn
    refine ⟨b, o, e, Nat.lt_of_lt_of_le h1 hB, Nat.lt_of_lt_of_le h2 hb.size, fun i hi => ?_⟩
    rw [hb.cell (p := ⟨b, o + i, none⟩) h2]
    exact h3 i hi⟩
/-- a reader that is laid behind a variable -/
theorem Cu.new1 {w : World} {A : Option Addr} {n c : Nat} (h : Code w w.heap.size A n) (o : Obj) :
    Cu ((w.alloc o).alloc (.cells #[.slice A n c, .int .i64 0, .int .u64 0] 90)) (w.heap.size + 1) (w.heap.size + 1) 0 := by
  have h1 := Cu.new (c := c) (h.up (below_alloc w o) (B' := (w.alloc o).heap.size) (by simp))
  rwa [size_alloc] at h1
theorem below2 (w : World) (o o' : Obj) : Below w.heap.size w ((w.alloc o).alloc o') := below_next (below_alloc w o) (below_alloc _ _)
theorem far_below1 {w w1 : World} {o o' : Obj} (hf : Far (w.heap.size + 1) ((w.alloc o).alloc o') w1) : Below w.heap.size w w1 :=
  (below2 w o o').trans (hf.below (Nat.le_succ _) (below2 w o o').size)

set_option maxHeartbeats 1000000 in
theorem DrawIsTrap_any (A : Option Addr) (n ca : Nat) (w : World) (h : Code w w.heap.size A n) :
    Calls Try.prog 100 #[.slice A n ca] w fun e w' => ∃ (c wi : Int) (s : Bool) (r i : Int), e = .returned (trapV c wi s r i) ∧ Below w.heap.size w w' := by
  have HN := Lib.hid (Cu.new1 (c := ca) h (.cells (trA 0 0 false 0 0) 35))
  have X0 := Lib.hid ((Box.new w 35 (trA 0 0 false 0 0)).alloc (.cells #[.slice A n ca, .int .i64 0, .int .u64 0] 90))
  clear h
  go_enter Try.func100, Try.ntmps100
  go_wp2_with fail
  refine (trap_any HN.out (by omega)).mono ?_
  rintro e w1 ⟨c, wi, s, r, i, rfl, _, hf⟩
  have X1 := X0.out.farC hf (by omega)
  have C1 := X1.cell
  have F1 := X1.free
  have HB := Lib.hid (far_below1 hf)
  clear X0 X1 hf HN
  go_wp2
  refine bodyPost_ret (v := trapV c wi s r i) (by simp [results, Try.results100, go_sem, C1]) rfl ⟨_, _, _, _, _, rfl, ?_⟩
  repeat (refine Below.setCell ?_ (by simp) _)
  exact HB.out
set_option maxHeartbeats 1000000 in
theorem DrawSyndrome_any (A : Option Addr) (n ca : Nat) (w : World) (h : Code w w.heap.size A n) :
    Calls Try.prog 32 #[.slice A n ca] w fun e w' => ∃ (c wi : Int) (s : Bool) (r i : Int), e = .returned (trapV c wi s r i) ∧ Below w.heap.size w w' := by
  have HN := Lib.hid (h.up (below_alloc w (.cells (trA 0 0 false 0 0) 35)) (B' := (w.alloc (.cells (trA 0 0 false 0 0) 35)).heap.size) (by simp))
  have X0 := Lib.hid (Box.new w 35 (trA 0 0 false 0 0))
  clear h
  go_enter Try.func32, Try.ntmps32
  go_wp2_with fail
  refine (DrawIsTrap_any A n ca _ HN.out).mono ?_
  rintro e w1 ⟨c, wi, s, r, i, rfl, hb⟩
  have X1 := X0.out.keep hb
  have C1 := X1.cell
  have F1 := X1.free
  have HB := Lib.hid (below_next (below_alloc w _) hb)
  clear X0 X1 hb HN
  go_wp2
  refine bodyPost_ret (v := trapV c wi s r i) (by simp [results, Try.results32, go_sem, C1]) rfl ⟨_, _, _, _, _, rfl, ?_⟩
  repeat (refine Below.setCell ?_ (by simp) _)
  exact HB.out
set_option maxHeartbeats 1000000 in
theorem DrawTrapOf_any (A : Option Addr) (n ca : Nat) (w : World) (h : Code w w.heap.size A n) :
    Calls Try.prog 36 #[.slice A n ca] w fun e w' => ∃ m : Int, e = .returned (.int .i64 m) ∧ Below w.heap.size w w' := by
  have HN := Lib.hid (Cu.new (c := ca) h)
  clear h
  go_enter Try.func36, Try.ntmps36
  go_wp2_with fail
  refine (trap_any HN.out (by omega)).mono ?_
  rintro e w1 ⟨c, wi, s, r, i, rfl, ⟨k1, hk1, hc1⟩, hf1⟩
  have HB1 := Lib.hid ((below_alloc w _).trans (hf1.below (Nat.le_refl _) (below_alloc w _).size))
  have HC1 := Lib.hid hc1
  clear hc1 hf1 HN
  go_wp2_with fail
  refine (s_Syndrome_any c wi s r i _).mono ?_
  rintro e w2 ⟨rfl, hb2⟩
  have HB2 := Lib.hid (HB1.out.trans (hb2.mono HB1.out.size))
  have HC2 := Lib.hid (HC1.out.below hb2)
  clear HB1 HC1 hb2
  go_wp2_with fail
  refine (among_lit (-1) 33554432 11 _ _ HC2.out (by omega) rfl (by omega) (by omega) (by decide)).mono ?_
  rintro e w3 ⟨q, _, rfl, _, hf3⟩
  have HB3 := Lib.hid (HB2.out.trans (hf3.below (Nat.le_refl _) HB2.out.size))
  clear hf3 HC2
  go_wp2
  go_ret
  exact ⟨_, rfl, HB3.out⟩
end Go.Proofs.Ytcdocgmikpccoaa
