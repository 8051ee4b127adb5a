/- The arguments drawn for JoinStrings: a list of at most five texts. The code of at most 65536 bytes. -/
import Derived.Test.YtppnmpkefchknaaLr
import Derived.Test.YtppnmpkefchknaaCv
import Derived.Test.YtppnmpkefchknaaSs0
import Derived.Test.YtppnmpkefchknaaBs
import Derived.Test.YtppnmpkefchknaaSj
import Derived.Deep.CutBlock
namespace Go.Proofs.Ytppnmpkefchknaa
open Go.RowKit
set_option linter.unusedVariables false
set_option linter.unusedSimpArgs false

theorem madeB (n : Nat) : (madeCells (Value.int .u8 0).cells (n * 1)).toList = Bs (List.replicate n 0) := by
  show (madeCells #[Value.int .u8 0] (n * 1)).toList = _
  rw [toList_madeCells_one, Nat.mul_one]; simp [Bs]
theorem own_str {w : World} {B n c : Nat} {A : Option Addr} {xs : List (List UInt8)} {x : List UInt8} (h : w.ownsRow B 9 1 (.slice A (n + 1) c) (n + 1) (T xs ++ [.string ⟨x.toArray⟩])) : Own w B (tt A (n + 1) c (xs ++ [x])) := by
  show w.ownsRow B _ 1 _ _ (T (xs ++ [x]))
  rw [T_append]; exact h
theorem lens_snoc (xs : List (List UInt8)) (x : List UInt8) : Lib.lens (xs ++ [x]) = Lib.lens xs + x.length := by simp [Lib.lens]
theorem bytes_mk (q : ByteArray) : ∃ l : List UInt8, q = ⟨l.toArray⟩ := ⟨q.data.toList, by cases q; simp⟩

set_option maxRecDepth 100000 in
set_option maxHeartbeats 4000000 in
theorem DrawJoinStrings_any (A : Option Addr) (n ca : Nat) (w : World) (h : Code w w.heap.size A n) :
    Calls Try.prog 9 #[.slice A n ca] w fun e w' => ∃ (A' : Option Addr) (m c' : Nat) (xs : List (List UInt8)) (r : List UInt8), e = .returned (.tuple #[.slice A' m c', .string ⟨r.toArray⟩]) ∧ m ≤ 5 ∧ Lib.lens xs ≤ 5000 ∧ r.length ≤ 2 ∧ Own w' w.heap.size (tt A' m c' xs) ∧ Below w.heap.size w w' := by
  obtain ⟨i0, hi, hz0, hz1, hz2⟩ := info_parts Try.info9
  obtain ⟨j0, hj, hy0', hy1', hy2'⟩ := info_parts Try.info5
  obtain ⟨w1, hw1⟩ : ∃ w1, w1 = w.alloc (.cells #[.slice A n ca, .int .i64 0, .int .u64 0] 63) := ⟨_, rfl⟩
  have HB1 := Lib.hid (show Below w.heap.size w w1 by rw [hw1]; exact below_alloc w _)
  have R1 : Rw w.heap.size w1 w.heap.size 0 w1 := by rw [hw1]; exact Rw.start (Cu.new h)
  have HL := Lib.hid (show Lr w.heap.size w1 w.heap.size 0 (w1.alloc (.cells #[] 9)) (tt (some ⟨w1.heap.size, 0, none⟩) 0 0 []) from ⟨R1.alloc _, own_empty 1 (Box.new w1 _ _) (Nat.le_refl _)⟩)
  have HSZ := Lib.hid (show w1.heap.size = w.heap.size + 1 by rw [hw1]; simp)
  clear R1 h
  go_enter Try.func9, Try.ntmps9
  go_upto_region 2 with (fail)
  rw [← hw1]
  clear hw1
  go_wp2_with fail
  refine (pick_any 4 HL.out.rw.cu (by omega) (by decide) (by decide)).mono ?_
  rintro e w2 ⟨x, ⟨hx0, hx1, _⟩, rfl, ⟨k1, hk1, hc1⟩, hf1⟩
  have hx4 := hx1 (by decide)
  have HL2 := Lib.hid (HL.out.step hc1 hf1)
  clear hc1 hf1 hx1 HL
  go_wp2
  go_loopw [5, 7] (fun o i wr => ∃ (k q c : Nat) (A : Option Addr) (xs : List (List UInt8)), (k : Int) ≤ x ∧ i = .int .i64 k ∧ o = .slice A k c ∧ q ≤ 2 * k + 2 ∧ Lib.lens xs ≤ 10 * k ∧ Hid (Lr w.heap.size w1 w.heap.size q wr (tt A k c xs))) (fun _ i _ => (x - intOf i).toNat)
  case atStart => exact ⟨0, k1, 0, _, [], by omega, rfl, rfl, by omega, by simp [Lib.lens], HL2⟩
  case round =>
    obtain ⟨k, q, c, A2, xs, hk, rfl, rfl, hq, hlen, HLr⟩ := hrel
    clear HL2
    by_cases hlt : (k : Int) < x
    · go_wp2_with fail
      refine (any1_any HLr.out.rw.cu (by omega)).mono ?_
      rintro e w3 ⟨t, ht, rfl, ⟨k3, hk3, hc3⟩, hf3⟩
      have HL3 := Lib.hid (HLr.out.step hc3 hf3)
      have hs3 := HL3.out.rw.size
      clear hc3 hf3 HLr
      obtain ⟨lt, rfl⟩ := bytes_mk t
      have hlt2 : lt.length ≤ 10 := by have h1 : lt.toArray.size ≤ 10 := ht; simpa using h1
      go_wp2_with (at_builtin; refine wpList_app _ rfl _ _ 26 rfl w1.heap.size 9 i0 (.string ⟨#[]⟩) 1 16 Try.underlying26 hi hz0 hz1 hz2 rfl (by decide) _ _ _ _ rfl (World.ownsRow.alloc HL3.out.own _) _ _ _ _ rfl (Rd.one _ _ _) (by simp [Value.oneCell']) (by unfold maxLen; omega) (by omega) (by simp; omega) ?_; intro A' c' w9 hown hgrow hat)
      have HL9 := Lib.hid ((HL3.out.alloc _).app hgrow (own_str hown))
      clear hgrow hown hat HL3
      go_wp2
      go_roundw
      case rel => exact ⟨k + 1, k3, _, _, _, by omega, by go_num, rfl, by omega, by rw [lens_snoc]; omega, HL9⟩
      case measure => simp [intOf]; omega
    · go_wp2_with fail
      refine (one_any 20 HLr.out.rw.cu (by omega) (by decide) (by decide)).mono ?_
      rintro e w3 ⟨bb, rfl, ⟨k3, hk3, hc3⟩, hf3⟩
      have HL3 := Lib.hid (HLr.out.step hc3 hf3)
      have hs3 := HL3.out.rw.size
      clear hc3 hf3 HLr
      cases bb
      · go_wp2_with fail
        refine (of_lit 2 5 _ _ HL3.out.rw.cu (by omega) rfl (by omega) (by omega) (by decide)).mono ?_
        rintro e w4 ⟨r, hr, rfl, ⟨k4, hk4, hc4⟩, hf4⟩
        have HL4 := Lib.hid (HL3.out.step hc4 hf4)
        clear hc4 hf4 HL3
        obtain ⟨lr, rfl⟩ := bytes_mk r
        have hlr : lr.length ≤ 2 := by have h1 : lr.toArray.size ≤ 2 := hr; simpa using h1
        go_wp2
        go_ret2
        exact ⟨A2, k, c, xs, lr, rfl, by omega, by omega, hlr, own_less HL4.out.own HB1.out.size, HB1.out.trans (HL4.out.rw.far.below (Nat.le_refl _) HB1.out.size)⟩
      · go_wp2_with fail
        refine (pick_any 20 HL3.out.rw.cu (by omega) (by decide) (by decide)).mono ?_
        rintro e w4 ⟨y, ⟨hy0, hy1, _⟩, rfl, ⟨k4, hk4, hc4⟩, hf4⟩
        have hy2 := hy1 (by decide)
        have HL4 := Lib.hid (HL3.out.step hc4 hf4)
        have hs4 := HL4.out.rw.size
        clear hc4 hf4 hy1 HL3
        obtain ⟨y, rfl⟩ := Int.eq_ofNat_of_zero_le hy0
        go_wp2_with (at_make; refine wpList_make_full _ rfl _ _ 22 rfl w1.heap.size 5 j0 (.int .u8 0) 1 Try.underlying22 hj hy0' hy1' .i64 .i64 _ _ (3990 + y) rfl rfl (by first | rfl | omega) (by first | rfl | omega) (by rw [hy2']; omega) (by unfold maxLen; omega) (by omega) ?_; intro w5 hown hgrow)
        rw [madeB] at hown
        obtain ⟨lz, hlz⟩ : ∃ lz, lz = List.replicate (3990 + y) (0 : UInt8) := ⟨_, rfl⟩
        have hzl : lz.length = 3990 + y := by rw [hlz, List.length_replicate]
        rw [← hlz] at hown
        clear hlz
        have HL5 := Lib.hid (HL4.out.below ((Below.refl _ _).grown hgrow (Nat.le_refl _) (by simp)))
        have hs5 := HL5.out.rw.size
        have hcv := own_string (show Own w5 w1.heap.size (tb (some ⟨w4.heap.size, 0, none⟩) (3990 + y) (3990 + y) lz) from hown)
        clear hown hgrow HL4
        go_wp2_with fail
        rw [hcv]
        clear hcv
        go_wp2_with (at_builtin; refine wpList_app _ rfl _ _ 26 rfl w1.heap.size 9 i0 (.string ⟨#[]⟩) 1 16 Try.underlying26 hi hz0 hz1 hz2 rfl (by decide) _ _ _ _ rfl (World.ownsRow.alloc HL5.out.own _) _ _ _ _ rfl (Rd.one _ _ _) (by simp [Value.oneCell']) (by unfold maxLen; omega) (by omega) (by simp; omega) ?_; intro A' c' w9 hown hgrow hat)
        have HL9 := Lib.hid ((HL5.out.alloc _).app hgrow (own_str hown))
        clear hgrow hown hat HL5
        go_wp2_with fail
        refine (of_lit 2 5 _ _ HL9.out.rw.cu (by omega) rfl (by omega) (by omega) (by decide)).mono ?_
        rintro e w10 ⟨r, hr, rfl, ⟨k10, hk10, hc10⟩, hf10⟩
        have HL10 := Lib.hid (HL9.out.step hc10 hf10)
        clear hc10 hf10 HL9
        obtain ⟨lr, rfl⟩ := bytes_mk r
        have hlr : lr.length ≤ 2 := by have h1 : lr.toArray.size ≤ 2 := hr; simpa using h1
        go_wp2
        go_ret2
        exact ⟨A', k + 1, c', _, lr, rfl, by omega, by rw [lens_snoc]; omega, hlr, own_less HL10.out.own HB1.out.size, HB1.out.trans (HL10.out.rw.far.below (Nat.le_refl _) HB1.out.size)⟩
end Go.Proofs.Ytppnmpkefchknaa
