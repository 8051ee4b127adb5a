/- Contracts of the reader of choices: instruction. What is drawn is any instruction's value. -/
import Derived.Test.YtlahpnihnpmgoaaDoorDr
import Derived.Test.YtlahpnihnpmgoaaDoorGa
import Derived.Deep.RegionWith
import Derived.Deep.DrawnRows
import Derived.Deep.CutBlock
namespace Go.Proofs.YtlahpnihnpmgoaaDoor
open Go.RowKit
set_option linter.unusedVariables false
set_option linter.unusedSimpArgs false
attribute [local go_sem ↓] Go.wp_at_zero Go.wp_at_succ

abbrev inA (o a b n : Int) : Array Value := #[.int .i64 o, .int .i64 a, .int .i64 b, .int .i64 n]
theorem l1Least_any (a b : Int) (w : World) : Calls Tryd.prog 48 #[.int .i64 a, .int .i64 b] w fun e w' => e = .returned (.int .i64 (if a < b then a else b)) ∧ w = w' := by
  by_cases h : a < b
  · go_enter Tryd.func48, Tryd.ntmps48
    go_wp2
    go_ret
    exact ⟨by first | rfl | (rw [if_pos h]; rfl) | simp [h], by first | rfl | trivial⟩
  · go_enter Tryd.func48, Tryd.ntmps48
    go_wp2
    go_ret
    exact ⟨by first | rfl | (rw [if_neg h]; rfl) | simp [h], by first | rfl | trivial⟩
/-- inside instruction: the variable of the result, the variable of the instruction -/
structure Ib (B : Nat) (w : World) (g k gT : Nat) (wx : World) (o a b n : Int) : Prop where
  rw : Rw B w g k wx
  res : Bv w g wx w.heap.size 26 (inA 0 0 0 0)
  tv : Bv w g wx gT 26 (inA o a b n)
  ne : w.heap.size ≠ gT
section
variable {B : Nat} {w : World} {g k k' gT : Nat} {wx wy : World} {o a b n : Int}
theorem Ib.step (T : Ib B w g k gT wx o a b n) (hc : Cu wy B g k') (hf : Far g wx wy) : Ib B w g k' gT wy o a b n := ⟨T.rw.step hc hf, T.res.step hf, T.tv.step hf, T.ne⟩
theorem Ib.put0 (T : Ib B w g k gT wx o a b n) (u : Int) : Ib B w g k gT (wx.setCell ⟨gT, 0, none⟩ (.int .i64 u)) u a b n := ⟨T.rw.put T.tv.lo 0 _, T.res.other T.ne _, T.tv.put 0 _, T.ne⟩
theorem Ib.put1 (T : Ib B w g k gT wx o a b n) (u : Int) : Ib B w g k gT (wx.setCell ⟨gT, 1, none⟩ (.int .i64 u)) o u b n := ⟨T.rw.put T.tv.lo 1 _, T.res.other T.ne _, T.tv.put 1 _, T.ne⟩
theorem Ib.put2 (T : Ib B w g k gT wx o a b n) (u : Int) : Ib B w g k gT (wx.setCell ⟨gT, 2, none⟩ (.int .i64 u)) o a u n := ⟨T.rw.put T.tv.lo 2 _, T.res.other T.ne _, T.tv.put 2 _, T.ne⟩
theorem Ib.put3 (T : Ib B w g k gT wx o a b n) (u : Int) : Ib B w g k gT (wx.setCell ⟨gT, 3, none⟩ (.int .i64 u)) o a b u := ⟨T.rw.put T.tv.lo 3 _, T.res.other T.ne _, T.tv.put 3 _, T.ne⟩
theorem Rw.put4 (R : Rw B w g k wx) (u0 u1 u2 u3 : Value) :
    Rw B w g k ((((wx.setCell ⟨w.heap.size, 0, none⟩ u0).setCell ⟨w.heap.size, 1, none⟩ u1).setCell ⟨w.heap.size, 2, none⟩ u2).setCell ⟨w.heap.size, 3, none⟩ u3) :=
  (((R.put (Nat.le_refl _) 0 u0).put (Nat.le_refl _) 1 u1).put (Nat.le_refl _) 2 u2).put (Nat.le_refl _) 3 u3
theorem Rw.out (R : Rw B w g k wx) {K : Nat} (hk : k ≤ K) : (∃ k', k' ≤ K ∧ Cu wx B g k') ∧ Far g w wx := ⟨⟨k, hk, R.cu⟩, R.far⟩
end
def InsAt (B : Nat) (w : World) (g K gT : Nat) (wx : World) : Prop := ∃ (o a b n : Int) (k : Nat), k ≤ K ∧ Ib B w g k gT wx o a b n
theorem InsAt.mk {B : Nat} {w : World} {g k K gT : Nat} {wx : World} {o a b n : Int} (T : Ib B w g k gT wx o a b n) (hk : k ≤ K) : InsAt B w g K gT wx := ⟨o, a, b, n, k, hk, T⟩
set_option maxRecDepth 100000 in
set_option maxHeartbeats 8000000 in
theorem instruction_any {w : World} {B g k : Nat} (h : Cu w B g k) (hk : k ≤ 700000) :
    Calls Tryd.prog 37 #[.pointer (some ⟨g, 0, none⟩)] w fun e w' => ∃ (o a b n : Int), e = .returned (insV o a b n) ∧ (∃ k', k' ≤ k + 20 ∧ Cu w' B g k') ∧ Far g w w' := by
  have R0 := Lib.hid ((Rw.start h).alloc (.cells (inA 0 0 0 0) 26))
  have X0 := Lib.hid (Bv.new (t := 26) (Rw.start h) (inA 0 0 0 0))
  clear h
  go_enter Tryd.func37, Tryd.ntmps37
  go_wp2_with fail
  refine (pick_any 10 R0.out.cu (by omega) (by decide) (by decide)).mono ?_
  rintro e w1 ⟨x, ⟨hx0, hx1, _⟩, rfl, ⟨k1, hk1, hc1⟩, hf1⟩
  have R1 := R0.out.step hc1 hf1
  have HT2 := Lib.hid (show Ib B w g k1 w1.heap.size (w1.alloc (.cells (inA x 0 0 0) 26)) x 0 0 0 from
    ⟨R1.alloc _, (X0.out.step hf1).alloc _, Bv.new R1 _, by have := R1.size; have := (X0.out.step hf1).box.lt; omega⟩)
  clear R0 X0 R1 hc1 hf1 hx1 hx0
  go_upto_region 2 with (fail)
  obtain ⟨w2, hw2⟩ : ∃ w2, w2 = w1.alloc (.cells #[.int .i64 x, .int .i64 0, .int .i64 0, .int .i64 0] 26) := ⟨_, rfl⟩
  obtain ⟨gT, hgT⟩ : ∃ gT, gT = w1.heap.size := ⟨_, rfl⟩
  rw [← hw2, ← hgT]
  have HT3 : Hid (Ib B w g k1 gT w2 x 0 0 0) := by rw [hw2, hgT]; exact HT2.out
  clear hw2 hgT HT2
  have C3 := HT3.out.tv.cell
  obtain ⟨ba, hba⟩ : ∃ b, b = uA x := ⟨_, rfl⟩
  obtain ⟨bb, hbb⟩ : ∃ b, b = uB x := ⟨_, rfl⟩
  obtain ⟨bz, hbz⟩ : ∃ b, b = uZ x := ⟨_, rfl⟩
  obtain ⟨mx, hmx⟩ : ∃ m, m = uN x := ⟨_, rfl⟩
  go_wp2_with fail
  refine (l3Uses_any x _).mono ?_
  rw [← hba, ← hbb, ← hbz, ← hmx]
  rintro e w4 ⟨rfl, rfl⟩
  clear hba hbb hbz hmx
  have HA3 := Lib.hid (InsAt.mk HT3.out (K := k + 2) (by omega))
  clear C3 HT3
  go_upto_if 19 with (fail)
  go_cut [3] from 19 to 22 (fun t wx => t = .pointer (some ⟨gT, 0, none⟩) ∧ Hid (InsAt B w g (k + 4) gT wx))
  case first =>
    obtain ⟨o, a, b, n, k2, hk2, T⟩ := HA3.out
    have HT := Lib.hid T
    clear T HA3
    cases ba
    · go_wp2
      go_meet
      exact ⟨rfl, Lib.hid (InsAt.mk HT.out (by omega))⟩
    · go_wp2_with fail
      refine (pick_any 4 HT.out.rw.cu (by omega) (by decide) (by decide)).mono ?_
      rintro e w5 ⟨y, _, rfl, ⟨k5, hk5, hc5⟩, hf5⟩
      have HT5 := Lib.hid (HT.out.step hc5 hf5)
      clear hc5 hf5 HT
      have C5 := HT5.out.tv.cell
      have F5 := HT5.out.tv.free
      go_wp2
      go_meet
      exact ⟨rfl, Lib.hid (InsAt.mk (HT5.out.put1 y) (by omega))⟩
  case rest =>
  obtain ⟨rfl, HA4⟩ := hcut
  clear HA3
  go_upto_if 23 with (fail)
  go_cut [3] from 23 to 26 (fun t wx => t = .pointer (some ⟨gT, 0, none⟩) ∧ Hid (InsAt B w g (k + 6) gT wx))
  case first =>
    obtain ⟨o, a, b, n, k2, hk2, T⟩ := HA4.out
    have HT := Lib.hid T
    clear T HA4
    cases bb
    · go_wp2
      go_meet
      exact ⟨rfl, Lib.hid (InsAt.mk HT.out (by omega))⟩
    · go_wp2_with fail
      refine (pick_any 4 HT.out.rw.cu (by omega) (by decide) (by decide)).mono ?_
      rintro e w5 ⟨y, _, rfl, ⟨k5, hk5, hc5⟩, hf5⟩
      have HT5 := Lib.hid (HT.out.step hc5 hf5)
      clear hc5 hf5 HT
      have C5 := HT5.out.tv.cell
      have F5 := HT5.out.tv.free
      go_wp2
      go_meet
      exact ⟨rfl, Lib.hid (InsAt.mk (HT5.out.put2 y) (by omega))⟩
  case rest =>
  obtain ⟨rfl, HA5⟩ := hcut
  clear HA4
  go_upto_if 27 with (fail)
  go_cut [3] from 27 to 33 (fun t wx => t = .pointer (some ⟨gT, 0, none⟩) ∧ Hid (InsAt B w g (k + 8) gT wx))
  case first =>
    obtain ⟨o, a, b, n, k2, hk2, T⟩ := HA5.out
    have HT := Lib.hid T
    clear T HA5
    cases bz
    · go_wp2
      go_meet
      exact ⟨rfl, Lib.hid (InsAt.mk HT.out (by omega))⟩
    · go_wp2_with fail
      refine (among_lit 0 65535 8 _ _ HT.out.rw.cu (by omega) rfl (by omega) (by omega) (by decide)).mono ?_
      rintro e w5 ⟨y, _, rfl, ⟨k5, hk5, hc5⟩, hf5⟩
      have HT5 := Lib.hid (HT.out.step hc5 hf5)
      clear hc5 hf5 HT
      go_wp2_with fail
      refine (l1Least_any mx y _).mono ?_
      rintro e w6 ⟨rfl, rfl⟩
      obtain ⟨z, hz⟩ : ∃ z, z = (if mx < y then mx else y) := ⟨_, rfl⟩
      rw [← hz]
      clear hz
      have C5 := HT5.out.tv.cell
      have F5 := HT5.out.tv.free
      go_wp2
      go_meet
      exact ⟨rfl, Lib.hid (InsAt.mk (HT5.out.put3 z) (by omega))⟩
  case rest =>
  obtain ⟨rfl, HA6⟩ := hcut
  clear HA5
  obtain ⟨o, a, b, n, k2, hk2, T⟩ := HA6.out
  have HT := Lib.hid T
  clear T HA6
  go_wp2_with fail
  refine (pick_any 80 HT.out.rw.cu (by omega) (by decide) (by decide)).mono ?_
  rintro e w7 ⟨y, ⟨hy0, _, _⟩, rfl, ⟨k7, hk7, hc7⟩, hf7⟩
  have HT7 := Lib.hid (HT.out.step hc7 hf7)
  clear hc7 hf7 HT
  go_upto_block 0 with (fail)
  go_cut [3] from 36 to 59 (fun t wx => t = .pointer (some ⟨gT, 0, none⟩) ∧ Hid (InsAt B w g (k + 12) gT wx))
  case first =>
    have hy : y = 0 ∨ y = 1 ∨ y = 2 ∨ y = 3 ∨ 3 < y := by omega
    rcases hy with rfl | rfl | rfl | rfl | hy
    · go_wp2_with fail
      refine (among_lit (-1) 10 3 _ _ HT7.out.rw.cu (by omega) rfl (by omega) (by omega) (by decide)).mono ?_
      rintro e w8 ⟨q, _, rfl, ⟨k8, hk8, hc8⟩, hf8⟩
      have HT8 := Lib.hid (HT7.out.step hc8 hf8)
      clear hc8 hf8
      have C8 := HT8.out.tv.cell
      have F8 := HT8.out.tv.free
      go_wp2
      go_meet
      exact ⟨rfl, Lib.hid (InsAt.mk (HT8.out.put0 q) (by omega))⟩
    · go_wp2_with fail
      refine (among_lit (-1) 4 3 _ _ HT7.out.rw.cu (by omega) rfl (by omega) (by omega) (by decide)).mono ?_
      rintro e w8 ⟨q, _, rfl, ⟨k8, hk8, hc8⟩, hf8⟩
      have HT8 := Lib.hid (HT7.out.step hc8 hf8)
      clear hc8 hf8
      have C8 := HT8.out.tv.cell
      have F8 := HT8.out.tv.free
      go_wp2
      go_meet
      exact ⟨rfl, Lib.hid (InsAt.mk (HT8.out.put1 q) (by omega))⟩
    · go_wp2_with fail
      refine (among_lit (-1) 4 3 _ _ HT7.out.rw.cu (by omega) rfl (by omega) (by omega) (by decide)).mono ?_
      rintro e w8 ⟨q, _, rfl, ⟨k8, hk8, hc8⟩, hf8⟩
      have HT8 := Lib.hid (HT7.out.step hc8 hf8)
      clear hc8 hf8
      have C8 := HT8.out.tv.cell
      have F8 := HT8.out.tv.free
      go_wp2
      go_meet
      exact ⟨rfl, Lib.hid (InsAt.mk (HT8.out.put2 q) (by omega))⟩
    · go_wp2_with fail
      refine (among_lit (-1) 65536 4 _ _ HT7.out.rw.cu (by omega) rfl (by omega) (by omega) (by decide)).mono ?_
      rintro e w8 ⟨q, _, rfl, ⟨k8, hk8, hc8⟩, hf8⟩
      have HT8 := Lib.hid (HT7.out.step hc8 hf8)
      clear hc8 hf8
      have C8 := HT8.out.tv.cell
      have F8 := HT8.out.tv.free
      go_wp2
      go_meet
      exact ⟨rfl, Lib.hid (InsAt.mk (HT8.out.put3 q) (by omega))⟩
    · have y0 : (y == 0) = false := by simp; omega
      have y1 : (y == 1) = false := by simp; omega
      have y2 : (y == 2) = false := by simp; omega
      have y3 : (y == 3) = false := by simp; omega
      go_wp2
      go_meet
      exact ⟨rfl, Lib.hid (InsAt.mk HT7.out (by omega))⟩
  case rest =>
  obtain ⟨rfl, HA⟩ := hcut
  clear HT7
  obtain ⟨o, a, b, n, k2, hk2, T⟩ := HA.out
  have HT := Lib.hid T
  clear T HA
  have C := HT.out.tv.cell
  have D := HT.out.res.cell
  have E := HT.out.res.free
  go_wp2
  refine bodyPost_ret (v := insV o a b n) (by simp [results, Tryd.results37, go_sem, C, D]) rfl ⟨_, _, _, _, rfl, (HT.out.rw.put4 _ _ _ _).out (by omega)⟩
end Go.Proofs.YtlahpnihnpmgoaaDoor
