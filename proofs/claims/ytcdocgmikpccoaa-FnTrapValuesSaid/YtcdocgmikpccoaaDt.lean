/- Contracts of the reader of choices: trap. What is drawn is any trap's value. -/
import Derived.Test.YtcdocgmikpccoaaDr
import Derived.Test.YtcdocgmikpccoaaTc
import Derived.Deep.RegionWith
import Derived.Deep.DrawnRows
import Derived.Deep.CutBlock
namespace Go.Proofs.Ytcdocgmikpccoaa
open Go.RowKit
set_option linter.unusedVariables false
set_option linter.unusedSimpArgs false
attribute [local go_sem ↓] Go.wp_at_zero Go.wp_at_succ

abbrev trA (c wi : Int) (s : Bool) (r i : Int) : Array Value := #[.int .i64 c, .int .i64 wi, .bool s, .int .i64 r, .int .i64 i]
/-- inside trap: the variable of the result, the variable of the trap -/
structure Tb (B : Nat) (w : World) (g k gT : Nat) (wx : World) (c wi : Int) (s : Bool) (r i : Int) : Prop where
  rw : Rw B w g k wx
  res : Bv w g wx w.heap.size 35 (trA 0 0 false 0 0)
  tv : Bv w g wx gT 35 (trA c wi s r i)
  ne : w.heap.size ≠ gT
section
variable {B : Nat} {w : World} {g k k' gT : Nat} {wx wy : World} {c wi : Int} {s : Bool} {r i : Int}
theorem Tb.step (T : Tb B w g k gT wx c wi s r i) (hc : Cu wy B g k') (hf : Far g wx wy) : Tb B w g k' gT wy c wi s r i := ⟨T.rw.step hc hf, T.res.step hf, T.tv.step hf, T.ne⟩
theorem Tb.drew (T : Tb B w g k gT wx c wi s r i) : Tb B w g k gT wx.drew c wi s r i := ⟨T.rw.drew, T.res.below (Below.drew (Below.refl _ _)), T.tv.below (Below.drew (Below.refl _ _)), T.ne⟩
theorem Tb.alloc (T : Tb B w g k gT wx c wi s r i) (o : Obj) : Tb B w g k gT (wx.alloc o) c wi s r i := ⟨T.rw.alloc o, T.res.alloc o, T.tv.alloc o, T.ne⟩
theorem Tb.put0 (T : Tb B w g k gT wx c wi s r i) (u : Int) : Tb B w g k gT (wx.setCell ⟨gT, 0, none⟩ (.int .i64 u)) u wi s r i := ⟨T.rw.put T.tv.lo 0 _, T.res.other T.ne _, T.tv.put 0 _, T.ne⟩
theorem Tb.put1 (T : Tb B w g k gT wx c wi s r i) (u : Int) : Tb B w g k gT (wx.setCell ⟨gT, 1, none⟩ (.int .i64 u)) c u s r i := ⟨T.rw.put T.tv.lo 1 _, T.res.other T.ne _, T.tv.put 1 _, T.ne⟩
theorem Tb.put2 (T : Tb B w g k gT wx c wi s r i) (u : Bool) : Tb B w g k gT (wx.setCell ⟨gT, 2, none⟩ (.bool u)) c wi u r i := ⟨T.rw.put T.tv.lo 2 _, T.res.other T.ne _, T.tv.put 2 _, T.ne⟩
theorem Tb.put3 (T : Tb B w g k gT wx c wi s r i) (u : Int) : Tb B w g k gT (wx.setCell ⟨gT, 3, none⟩ (.int .i64 u)) c wi s u i := ⟨T.rw.put T.tv.lo 3 _, T.res.other T.ne _, T.tv.put 3 _, T.ne⟩
theorem Tb.put4 (T : Tb B w g k gT wx c wi s r i) (u : Int) : Tb B w g k gT (wx.setCell ⟨gT, 4, none⟩ (.int .i64 u)) c wi s r u := ⟨T.rw.put T.tv.lo 4 _, T.res.other T.ne _, T.tv.put 4 _, T.ne⟩
theorem Rw.put5 (R : Rw B w g k wx) (u0 u1 u2 u3 u4 : Value) :
    Rw B w g k (((((wx.setCell ⟨w.heap.size, 0, none⟩ u0).setCell ⟨w.heap.size, 1, none⟩ u1).setCell ⟨w.heap.size, 2, none⟩ u2).setCell ⟨w.heap.size, 3, none⟩ u3).setCell ⟨w.heap.size, 4, none⟩ u4) :=
  ((((R.put (Nat.le_refl _) 0 u0).put (Nat.le_refl _) 1 u1).put (Nat.le_refl _) 2 u2).put (Nat.le_refl _) 3 u3).put (Nat.le_refl _) 4 u4
theorem Rw.out (R : Rw B w g k wx) {K : Nat} (hk : k ≤ K) : (∃ k', k' ≤ K ∧ Cu wx B g k') ∧ Far g w wx := ⟨⟨k, hk, R.cu⟩, R.far⟩
end
/-- one of some numbers that lie in a block -/
theorem among_box {W : World} {B g k : Nat} (lo hi : Int) (n b : Nat) (cs : Array Value) (t : TypeId) (X : Box W b t cs) (h : Cu W B g k) (hb : b ≠ g) (hk : k ≤ 900000) (hn0 : 1 ≤ n) (hn1 : n ≤ 1000) (hn : n ≤ cs.size) (c : Nat) (hs : intsB lo hi cs.toList = true) :
    Calls Try.prog 86 #[.pointer (some ⟨g, 0, none⟩), .slice (some ⟨b, 0, none⟩) n c] W fun e w' => ∃ q : Int, (lo ≤ q ∧ q ≤ hi) ∧ e = .returned (.int .i64 q) ∧ (∃ k', k' ≤ k + 2 ∧ Cu w' B g k') ∧ Far g W w' :=
  among_any (fun q => lo ≤ q ∧ q ≤ hi) b 0 n c h hk hn0 hn1 hb X.lt (fun i hi => by
    obtain ⟨q, hq, he⟩ := ints_at hs (i := i) (by rw [Array.length_toList]; omega)
    refine ⟨q, hq, ?_⟩
    rw [Nat.zero_add, X.cell i, ← Array.getElem?_toList]
    exact he)
def TrapAt (B : Nat) (w : World) (g K gT : Nat) (wx : World) : Prop := ∃ (c wi : Int) (s : Bool) (r i : Int) (k : Nat), k ≤ K ∧ Tb B w g k gT wx c wi s r i

theorem TrapAt.mk {B : Nat} {w : World} {g k K gT : Nat} {wx : World} {c wi : Int} {s : Bool} {r i : Int} (T : Tb B w g k gT wx c wi s r i) (hk : k ≤ K) : TrapAt B w g K gT wx := ⟨c, wi, s, r, i, k, hk, T⟩
set_option maxRecDepth 100000 in
set_option maxHeartbeats 8000000 in
theorem trap_any {w : World} {B g k : Nat} (h : Cu w B g k) (hk : k ≤ 700000) :
    Calls Try.prog 102 #[.pointer (some ⟨g, 0, none⟩)] w fun e w' => ∃ (c wi : Int) (s : Bool) (r i : Int), e = .returned (trapV c wi s r i) ∧ (∃ k', k' ≤ k + 20 ∧ Cu w' B g k') ∧ Far g w w' := by
  have R0 := Lib.hid ((Rw.start h).alloc (.cells (trA 0 0 false 0 0) 35))
  have X0 := Lib.hid (Bv.new (t := 35) (Rw.start h) (trA 0 0 false 0 0))
  clear h
  go_enter Try.func102, Try.ntmps102
  go_wp2_with fail
  refine (pick_any 5 R0.out.cu (by omega) (by decide) (by decide)).mono ?_
  rintro e w1 ⟨x, ⟨hx0, hx1, _⟩, rfl, ⟨k1, hk1, hc1⟩, hf1⟩
  have hx2 := hx1 (by decide)
  have R1 := R0.out.step hc1 hf1
  have HT2 := Lib.hid (show Tb B w g k1 w1.heap.size (w1.alloc (.cells (trA (1 + x) 0 false 0 0) 35)) (1 + x) 0 false 0 0 from
    ⟨R1.alloc _, (X0.out.step hf1).alloc _, Bv.new R1 _, by have := R1.size; have := (X0.out.step hf1).box.lt; omega⟩)
  clear R0 X0 R1 hc1 hf1 hx1
  go_upto_block 0 with (fail)
  obtain ⟨w2, hw2⟩ : ∃ w2, w2 = w1.alloc (.cells #[.int .i64 (1 + x), .int .i64 0, .bool false, .int .i64 0, .int .i64 0] 35) := ⟨_, rfl⟩
  rw [← hw2] at HT2 ⊢
  clear hw2
  go_cut [3] from 10 to 42 (fun a wx => ∃ gT : Nat, a = .pointer (some ⟨gT, 0, none⟩) ∧ Hid (TrapAt B w g (k + 12) gT wx))
  case first =>
    have C2 := HT2.out.tv.cell
    have F2 := HT2.out.tv.free
    have hx3 : x = 0 ∨ x = 1 ∨ x = 2 ∨ x = 3 ∨ x = 4 := by omega
    rcases hx3 with rfl | rfl | rfl | rfl | rfl
    · go_wp2_with fail
      refine (pick_any 16 HT2.out.rw.cu (by omega) (by decide) (by decide)).mono ?_
      rintro e w3 ⟨y, _, rfl, ⟨k3, hk3, hc3⟩, hf3⟩
      have HT3 := Lib.hid (HT2.out.step hc3 hf3)
      clear hc3 hf3 C2 F2
      have C3 := HT3.out.tv.cell
      have F3 := HT3.out.tv.free
      go_wp2_with fail
      have HT4 := Lib.hid (HT3.out.put4 y)
      clear C3 F3
      refine (one_any 2 HT4.out.rw.cu (by omega) (by decide) (by decide)).mono ?_
      rintro e w5 ⟨b, rfl, ⟨k5, hk5, hc5⟩, hf5⟩
      have HT5 := Lib.hid (HT4.out.step hc5 hf5)
      clear hc5 hf5
      have C5 := HT5.out.tv.cell
      have F5 := HT5.out.tv.free
      go_wp2
      go_meet
      exact ⟨_, rfl, Lib.hid (TrapAt.mk (HT5.out.put2 b) (by omega))⟩
    · go_wp2_with fail
      refine (among_lit 0 255 4 _ _ HT2.out.rw.cu (by omega) rfl (by omega) (by omega) (by decide)).mono ?_
      rintro e w3 ⟨y, _, rfl, ⟨k3, hk3, hc3⟩, hf3⟩
      have HT3 := Lib.hid (HT2.out.step hc3 hf3)
      clear hc3 hf3 C2 F2
      have C3 := HT3.out.tv.cell
      have F3 := HT3.out.tv.free
      go_wp2
      go_meet
      exact ⟨_, rfl, Lib.hid (TrapAt.mk (HT3.out.put4 y) (by omega))⟩
    · go_wp2_with fail
      refine (among_lit 1 4 3 _ _ HT2.out.rw.cu (by omega) rfl (by omega) (by omega) (by decide)).mono ?_
      rintro e w3 ⟨y, _, rfl, ⟨k3, hk3, hc3⟩, hf3⟩
      have HT3 := Lib.hid (HT2.out.step hc3 hf3)
      clear hc3 hf3 C2 F2
      have C3 := HT3.out.tv.cell
      have F3 := HT3.out.tv.free
      go_upto_region 10 with (fail)
      obtain ⟨w4, hw4⟩ : ∃ w4, w4 = w3.setCell ⟨w1.heap.size, 1, none⟩ (.int .i64 y) := ⟨_, rfl⟩
      rw [← hw4]
      have HT4 : Hid (Tb B w g k3 w1.heap.size w4 (1 + 2) y false 0 0) := by rw [hw4]; exact HT3.out.put1 y
      clear hw4 C3 F3 HT3
      have T0 := HT4.out.drew
      have T4 := (HT4.out.alloc (.cells #[.int .i64 0, .int .i64 1, .int .i64 10, .int .i64 16383] 3)).drew
      have X4 := (Box.new w4 3 #[.int .i64 0, .int .i64 1, .int .i64 10, .int .i64 16383]).drew
      have C0 := T0.tv.cell
      have C4 := T4.tv.cell
      have N4 := HT4.out.rw.cu.lt
      have M4 := HT4.out.tv.box.lt
      clear T0
      go_region_with (first
        | (go_at_call 86; refine (among_box 0 16383 4 _ _ _ X4 T4.rw.cu (by omega) (by omega) (by omega) (by omega) (by decide) _ (by decide)).mono ?_; rintro e w6 ⟨q, _, rfl, ⟨k6, hk6, hc6⟩, hf6⟩; have T6 := T4.step hc6 hf6; have C6 := T6.tv.cell; have F6 := T6.tv.free))
      all_goals
        have HT7 := Lib.hid (T6.put4 (wrap64 (y * q)))
        clear T4 T6 C4 C6 F6 hc6 hf6
        go_wp2_with fail
        refine (pick_any 4 HT7.out.rw.cu (by omega) (by decide) (by decide)).mono ?_
        rintro e w8 ⟨z, _, rfl, ⟨k8, hk8, hc8⟩, hf8⟩
        have HT8 := Lib.hid (HT7.out.step hc8 hf8)
        clear hc8 hf8 HT7
        have C8 := HT8.out.tv.cell
        have F8 := HT8.out.tv.free
        go_wp2_with fail
        have HT9 := Lib.hid (HT8.out.put3 z)
        clear C8 F8 HT8
        refine (one_any 2 HT9.out.rw.cu (by omega) (by decide) (by decide)).mono ?_
        rintro e w10 ⟨b, rfl, ⟨k10, hk10, hc10⟩, hf10⟩
        have HT10 := Lib.hid (HT9.out.step hc10 hf10)
        clear hc10 hf10 HT9
        have C10 := HT10.out.tv.cell
        have F10 := HT10.out.tv.free
        go_wp2
        go_meet
        exact ⟨_, rfl, Lib.hid (TrapAt.mk (HT10.out.put2 b) (by omega))⟩
    · go_wp2
      go_meet
      exact ⟨_, rfl, Lib.hid (TrapAt.mk (HT2.out) (by omega))⟩
    · go_wp2
      go_meet
      exact ⟨_, rfl, Lib.hid (TrapAt.mk (HT2.out) (by omega))⟩
  case rest =>
    obtain ⟨gT, rfl, HA⟩ := hcut
    obtain ⟨c, wi, s, r, i, k2, hk2, T⟩ := HA.out
    have HT := Lib.hid T
    clear T HA
    go_wp2_with fail
    refine (pick_any 40 HT.out.rw.cu (by omega) (by decide) (by decide)).mono ?_
    rintro e w3 ⟨y, ⟨hy0, _, _⟩, rfl, ⟨k3, hk3, hc3⟩, hf3⟩
    have HT3 := Lib.hid (HT.out.step hc3 hf3)
    clear hc3 hf3 HT
    go_upto_block 1 with (fail)
    go_cut [3] from 45 to 71 (fun a wx => a = .pointer (some ⟨gT, 0, none⟩) ∧ Hid (TrapAt B w g (k + 18) gT wx))
    case first =>
      have C3 := HT3.out.tv.cell
      have F3 := HT3.out.tv.free
      have hy : y = 0 ∨ y = 1 ∨ y = 2 ∨ y = 3 ∨ y = 4 ∨ 4 < y := by omega
      rcases hy with rfl | rfl | rfl | rfl | rfl | hy
      · go_wp2_with fail
        refine (among_lit (0) 6 3 _ _ HT3.out.rw.cu (by omega) rfl (by omega) (by omega) (by decide)).mono ?_
        rintro e w5 ⟨q, _, rfl, ⟨k5, hk5, hc5⟩, hf5⟩
        have HT5 := Lib.hid (HT3.out.step hc5 hf5)
        clear hc5 hf5 C3 F3
        have C5 := HT5.out.tv.cell
        have F5 := HT5.out.tv.free
        go_wp2
        go_meet
        exact ⟨rfl, Lib.hid (TrapAt.mk (HT5.out.put0 q) (by omega))⟩
      · go_wp2_with fail
        refine (among_lit (-1) 65536 6 _ _ HT3.out.rw.cu (by omega) rfl (by omega) (by omega) (by decide)).mono ?_
        rintro e w5 ⟨q, _, rfl, ⟨k5, hk5, hc5⟩, hf5⟩
        have HT5 := Lib.hid (HT3.out.step hc5 hf5)
        clear hc5 hf5 C3 F3
        have C5 := HT5.out.tv.cell
        have F5 := HT5.out.tv.free
        go_wp2
        go_meet
        exact ⟨rfl, Lib.hid (TrapAt.mk (HT5.out.put4 q) (by omega))⟩
      · go_wp2_with fail
        refine (among_lit (0) 8 4 _ _ HT3.out.rw.cu (by omega) rfl (by omega) (by omega) (by decide)).mono ?_
        rintro e w5 ⟨q, _, rfl, ⟨k5, hk5, hc5⟩, hf5⟩
        have HT5 := Lib.hid (HT3.out.step hc5 hf5)
        clear hc5 hf5 C3 F3
        have C5 := HT5.out.tv.cell
        have F5 := HT5.out.tv.free
        go_wp2
        go_meet
        exact ⟨rfl, Lib.hid (TrapAt.mk (HT5.out.put1 q) (by omega))⟩
      · go_wp2_with fail
        refine (among_lit (-1) 4 3 _ _ HT3.out.rw.cu (by omega) rfl (by omega) (by omega) (by decide)).mono ?_
        rintro e w5 ⟨q, _, rfl, ⟨k5, hk5, hc5⟩, hf5⟩
        have HT5 := Lib.hid (HT3.out.step hc5 hf5)
        clear hc5 hf5 C3 F3
        have C5 := HT5.out.tv.cell
        have F5 := HT5.out.tv.free
        go_wp2
        go_meet
        exact ⟨rfl, Lib.hid (TrapAt.mk (HT5.out.put3 q) (by omega))⟩
      · go_wp2
        go_meet
        exact ⟨rfl, Lib.hid (TrapAt.mk (HT3.out.put2 true) (by omega))⟩
      · have y0 : (y == 0) = false := by simp; omega
        have y1 : (y == 1) = false := by simp; omega
        have y2 : (y == 2) = false := by simp; omega
        have y3 : (y == 3) = false := by simp; omega
        have y4 : (y == 4) = false := by simp; omega
        go_wp2
        go_meet
        exact ⟨rfl, Lib.hid (TrapAt.mk HT3.out (by omega))⟩
    case rest =>
      obtain ⟨rfl, HA⟩ := hcut
      clear HT3
      obtain ⟨c, wi, s, r, i, k2, hk2, T⟩ := HA.out
      have HT := Lib.hid T
      clear T HA
      have C := HT.out.tv.cell
      have D := HT.out.res.cell
      have E := HT.out.res.free
      go_wp2
      refine bodyPost_ret (v := trapV c wi s r i) (by simp [results, Try.results102, go_sem, C, D]) rfl ⟨_, _, _, _, _, rfl, (HT.out.rw.put5 _ _ _ _ _).out (by omega)⟩
end Go.Proofs.Ytcdocgmikpccoaa
