/- Contracts of what is drawn for the law of traps' values: DrawStoredValue, DrawFaultTrap, DrawDeviceTrap. The code of at most 65536 bytes. -/
import Derived.Test.YtcdocgmikpccoaaDw
import Derived.IntWalk
namespace Go.Proofs.Ytcdocgmikpccoaa
open Go.RowKit
set_option linter.unusedVariables false
set_option linter.unusedSimpArgs false
attribute [local go_sem ↓] Go.wp_at_zero Go.wp_at_succ

/-- a reader that is laid behind a variable; the code lies ahead of both -/
theorem Cu.new2 {w : World} {A : Option Addr} {n c : Nat} (h : Code w w.heap.size A n) (o : Obj) :
    Cu ((w.alloc o).alloc (.cells #[.slice A n c, .int .i64 0, .int .u64 0] 90)) w.heap.size (w.heap.size + 1) 0 := by
  have h1 := Box.new (w.alloc o) 90 #[.slice A n c, .int .i64 0, .int .u64 0]
  rw [size_alloc] at h1
  exact ⟨Nat.le_succ _, A, n, c, 0, h1, h.up (below2 w o _) (Nat.le_refl _)⟩
theorem Cu.put {w : World} {B g k b p : Nat} (h : Cu w B g k) (hB : B ≤ b) (hg : b ≠ g) (u : Value) : Cu (w.setCell ⟨b, p, none⟩ u) B g k :=
  h.grown (grown_put b p u) (fun e => hg (by cases e; rfl)) (fun x e => by cases e; exact hB)
theorem own_put {w : World} {B b p : Nat} {t : Thing} (h : Own w B t) (hb : blk t.A ≠ some b) (u : Value) : Own (w.setCell ⟨b, p, none⟩ u) B t :=
  World.ownsRow.kept h (grown_put b p u) (by rw [ownBlock_slice]; exact .inr hb)
theorem own_ne {w : World} {B b : Nat} {t : Thing} (h : Own w B t) (hb : b < B) : blk t.A ≠ some b := fun e => by have := blk_own h b e; omega

theorem Rw.lit {B g k : Nat} {w wx : World} (R : Rw B w g k wx) (cs : Array Value) (t : TypeId) : Bv w g (wx.alloc (.cells cs t)) wx.heap.size t cs := Bv.new R cs
/-- one of the first of some numbers that lie in a block -/
theorem among_cut {W : World} {B g k : Nat} (lo hi : Int) (n b : Nat) (cs : Array Value) (t : TypeId) (X : Box W b t cs) (h : Cu W B g k) (hb : b ≠ g) (hk : k ≤ 900000) (hn0 : 1 ≤ n) (hn1 : n ≤ 1000) (hn : n ≤ cs.size) (c : Nat) (hs : intsB lo hi cs.toList = true) :
    Calls Try.prog 86 #[.pointer (some ⟨g, 0, none⟩), .slice (some ⟨b, 0, none⟩) n c] W fun e w' => ∃ q : Int, (lo ≤ q ∧ q ≤ hi) ∧ e = .returned (.int .i64 q) ∧ (∃ k', k' ≤ k + 2 ∧ Cu w' B g k') ∧ Far g W w' := among_box lo hi n b cs t X h hb hk hn0 hn1 hn c hs
theorem results_tmp4d {fn : Func} {t u v x : Tmp} (h : fn.results = #[.tmp t, .tmp u, .tmp v, .tmp x]) (tmps : Array Value) (P : Program) (w : World) :
    (results fn tmps).run P w = .ok (.tuple #[tmps.getD t undef, tmps.getD u undef, tmps.getD v undef, tmps.getD x undef]) w := by
  simp [results, h]

set_option maxHeartbeats 2000000 in
theorem DrawFaultTrap_any (A : Option Addr) (n ca : Nat) (w : World) (h : Code w w.heap.size A n) :
    Calls Try.prog 25 #[.slice A n ca] w fun e w' => ∃ (p : Int) (b : Bool), e = .returned (.tuple #[.int .i64 p, .bool b]) ∧ Below w.heap.size w w' := by
  obtain ⟨w1, hw1⟩ : ∃ w1, w1 = w.alloc (.cells #[.slice A n ca, .int .i64 0, .int .u64 0] 90) := ⟨_, rfl⟩
  have HB1 := Lib.hid (show Below w.heap.size w w1 by rw [hw1]; exact below_alloc w _)
  have R1 := Lib.hid (show Rw w.heap.size w1 w.heap.size 0 w1 by rw [hw1]; exact Rw.start (Cu.new h))
  clear h
  go_enter Try.func25, Try.ntmps25
  go_upto_region 2 with (fail)
  rw [← hw1]
  clear hw1
  have R2 := Lib.hid (R1.out.alloc (.cells #[.int .i64 0, .int .i64 7, .int .i64 15, .int .i64 (-1), .int .i64 16] 3))
  have X2 := Lib.hid (R1.out.lit #[.int .i64 0, .int .i64 7, .int .i64 15, .int .i64 (-1), .int .i64 16] 3)
  go_wp2_with fail
  refine (pick_any 24 R2.out.cu (by omega) (by decide) (by decide)).mono ?_
  rintro e w3 ⟨x, ⟨hx0, hx1, _⟩, rfl, ⟨k3, hk3, hc3⟩, hf3⟩
  have hx2 := hx1 (by decide)
  have R3 := Lib.hid (R2.out.step hc3 hf3)
  have X3 := Lib.hid (X2.out.step hf3)
  clear hc3 hf3 hx1 R2 X2
  have f1 : (0 : Int) ≤ 3 + x / 11 := by omega
  have f2 : (3 : Int) + x / 11 ≤ 5 := by omega
  go_wp2_with fail
  refine (among_cut (-1) 16 _ _ _ _ X3.out.box R3.out.cu X3.out.ne (by omega) (by omega) (by omega) (by show _ ≤ 5; omega) _ (by decide)).mono ?_
  rintro e w4 ⟨q4, _, rfl, ⟨k4, hk4, hc4⟩, hf4⟩
  have R4 := Lib.hid (R3.out.step hc4 hf4)
  clear hc4 hf4 R3 X3 f1 f2 hx0 hx2
  go_wp2_with fail
  refine (one_any 2 R4.out.cu (by omega) (by decide) (by decide)).mono ?_
  rintro e w5 ⟨b, rfl, ⟨k5, hk5, hc5⟩, hf5⟩
  have R5 := Lib.hid (R4.out.step hc5 hf5)
  clear hc5 hf5 R4
  go_wp2
  go_ret2
  exact ⟨_, _, rfl, HB1.out.trans (R5.out.far.below (Nat.le_refl _) HB1.out.size)⟩

set_option maxHeartbeats 4000000 in
theorem DrawDeviceTrap_any (A : Option Addr) (n ca : Nat) (w : World) (h : Code w w.heap.size A n) :
    Calls Try.prog 29 #[.slice A n ca] w fun e w' => ∃ (p q r : Int) (b : Bool), e = .returned (.tuple #[.int .i64 p, .int .i64 q, .int .i64 r, .bool b]) ∧ Below w.heap.size w w' := by
  obtain ⟨w1, hw1⟩ : ∃ w1, w1 = w.alloc (.cells #[.slice A n ca, .int .i64 0, .int .u64 0] 90) := ⟨_, rfl⟩
  have HB1 := Lib.hid (show Below w.heap.size w w1 by rw [hw1]; exact below_alloc w _)
  have R1 := Lib.hid (show Rw w.heap.size w1 w.heap.size 0 w1 by rw [hw1]; exact Rw.start (Cu.new h))
  clear h
  go_enter Try.func29, Try.ntmps29
  go_upto_region 2 with (fail)
  rw [← hw1]
  clear hw1
  have R2 := Lib.hid (R1.out.alloc (.cells #[.int .i64 0, .int .i64 4, .int .i64 10, .int .i64 65532, .int .i64 65535, .int .i64 (-1), .int .i64 65536] 3))
  have X2 := Lib.hid (R1.out.lit #[.int .i64 0, .int .i64 4, .int .i64 10, .int .i64 65532, .int .i64 65535, .int .i64 (-1), .int .i64 65536] 3)
  clear R1
  go_wp2_with fail
  refine (pick_any 24 R2.out.cu (by omega) (by decide) (by decide)).mono ?_
  rintro e w3 ⟨x, ⟨hx0, hx1, _⟩, rfl, ⟨k3, hk3, hc3⟩, hf3⟩
  have hx2 := hx1 (by decide)
  have R3 := Lib.hid (R2.out.step hc3 hf3)
  have X3 := Lib.hid (X2.out.step hf3)
  clear hc3 hf3 hx1 R2 X2
  have f1 : (0 : Int) ≤ 5 + x / 11 := by omega
  have f2 : (5 : Int) + x / 11 ≤ 7 := by omega
  go_wp2_with fail
  refine (among_cut (-1) 65536 _ _ _ _ X3.out.box R3.out.cu X3.out.ne (by omega) (by omega) (by omega) (by show _ ≤ 7; omega) _ (by decide)).mono ?_
  rintro e w4 ⟨q4, _, rfl, ⟨k4, hk4, hc4⟩, hf4⟩
  have R4 := Lib.hid (R3.out.step hc4 hf4)
  clear hc4 hf4 R3 X3 f1 f2 hx0 hx2
  have R5 := Lib.hid (R4.out.alloc (.cells #[.int .i64 1, .int .i64 2, .int .i64 4, .int .i64 0, .int .i64 3] 3))
  have X5 := Lib.hid (R4.out.lit #[.int .i64 1, .int .i64 2, .int .i64 4, .int .i64 0, .int .i64 3] 3)
  clear R4
  go_wp2_with fail
  refine (pick_any 24 R5.out.cu (by omega) (by decide) (by decide)).mono ?_
  rintro e w6 ⟨x, ⟨hx0, hx1, _⟩, rfl, ⟨k6, hk6, hc6⟩, hf6⟩
  have hx2 := hx1 (by decide)
  have R6 := Lib.hid (R5.out.step hc6 hf6)
  have X6 := Lib.hid (X5.out.step hf6)
  clear hc6 hf6 hx1 R5 X5
  have f1 : (0 : Int) ≤ 3 + x / 11 := by omega
  have f2 : (3 : Int) + x / 11 ≤ 5 := by omega
  go_wp2_with fail
  refine (among_cut (0) 4 _ _ _ _ X6.out.box R6.out.cu X6.out.ne (by omega) (by omega) (by omega) (by show _ ≤ 5; omega) _ (by decide)).mono ?_
  rintro e w7 ⟨q7, _, rfl, ⟨k7, hk7, hc7⟩, hf7⟩
  have R7 := Lib.hid (R6.out.step hc7 hf7)
  clear hc7 hf7 R6 X6 f1 f2 hx0 hx2
  have R8 := Lib.hid (R7.out.alloc (.cells #[.int .i64 0, .int .i64 1, .int .i64 3, .int .i64 (-1), .int .i64 4] 3))
  have X8 := Lib.hid (R7.out.lit #[.int .i64 0, .int .i64 1, .int .i64 3, .int .i64 (-1), .int .i64 4] 3)
  clear R7
  go_wp2_with fail
  refine (pick_any 24 R8.out.cu (by omega) (by decide) (by decide)).mono ?_
  rintro e w9 ⟨x, ⟨hx0, hx1, _⟩, rfl, ⟨k9, hk9, hc9⟩, hf9⟩
  have hx2 := hx1 (by decide)
  have R9 := Lib.hid (R8.out.step hc9 hf9)
  have X9 := Lib.hid (X8.out.step hf9)
  clear hc9 hf9 hx1 R8 X8
  have f1 : (0 : Int) ≤ 3 + x / 11 := by omega
  have f2 : (3 : Int) + x / 11 ≤ 5 := by omega
  go_wp2_with fail
  refine (among_cut (-1) 4 _ _ _ _ X9.out.box R9.out.cu X9.out.ne (by omega) (by omega) (by omega) (by show _ ≤ 5; omega) _ (by decide)).mono ?_
  rintro e w10 ⟨q10, _, rfl, ⟨k10, hk10, hc10⟩, hf10⟩
  have R10 := Lib.hid (R9.out.step hc10 hf10)
  clear hc10 hf10 R9 X9 f1 f2 hx0 hx2
  go_wp2_with fail
  refine (one_any 2 R10.out.cu (by omega) (by decide) (by decide)).mono ?_
  rintro e w11 ⟨b, rfl, ⟨k11, hk11, hc11⟩, hf11⟩
  have R11 := Lib.hid (R10.out.step hc11 hf11)
  clear hc11 hf11 R10
  go_wp2
  refine bodyPost_ret (results_tmp4d rfl _ _ _) rfl ?_
  exact ⟨_, _, _, _, rfl, HB1.out.trans (R11.out.far.below (Nat.le_refl _) HB1.out.size)⟩
end Go.Proofs.Ytcdocgmikpccoaa
