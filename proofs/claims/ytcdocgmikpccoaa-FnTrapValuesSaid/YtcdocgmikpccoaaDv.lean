/- Contract of DrawCountCauses: a list of at most 51 traps. The code of at most 65536 bytes. -/
import Derived.Test.YtcdocgmikpccoaaDu
import Derived.Test.YtcdocgmikpccoaaStTrap
namespace Go.Proofs.Ytcdocgmikpccoaa
open Go.RowKit
set_option linter.unusedVariables false
set_option linter.unusedSimpArgs false

/-- the reader has gone on, a list of the call's own lies besides -/
structure Lr (B : Nat) (w : World) (g k : Nat) (wx : World) (t : Thing) : Prop where
  rw : Rw B w g k wx
  own : Own wx w.heap.size t
section
variable {B : Nat} {w : World} {g k k' : Nat} {wx wy : World} {t t' : Thing}
theorem Lr.ne (L : Lr B w g k wx t) : blk t.A ≠ some g := fun e => by have := blk_own L.own g e; have := L.rw.lt; omega
theorem Lr.step (L : Lr B w g k wx t) (hc : Cu wy B g k') (hf : Far g wx wy) : Lr B w g k' wy t := ⟨L.rw.step hc hf, own_far L.own hf L.ne⟩
theorem Lr.alloc (L : Lr B w g k wx t) (o : Obj) : Lr B w g k (wx.alloc o) t := ⟨L.rw.alloc o, World.ownsRow.alloc L.own o⟩
theorem Lr.below (L : Lr B w g k wx t) (hb : Below wx.heap.size wx wy) : Lr B w g k wy t :=
  ⟨L.rw.below hb, World.ownsRow.kept (row := none) L.own (grown_of_below hb _) (by cases hA : t.A <;> simp [ownBlock_slice, blk])⟩
theorem Lr.app (L : Lr B w g k wx t) (hg : wx.grownBy wy (blk t.A)) (ho : Own wy w.heap.size t') : Lr B w g k wy t' := ⟨L.rw.grown hg (blk_own L.own), ho⟩
end
def lenOf : Value → Nat
  | .slice _ l _ => l
  | _ => 0
theorem own_rec {w : World} {B n c : Nat} {A : Option Addr} {xs : List RTrap} {x : RTrap} (h : w.ownsRow B 35 5 (.slice A (n + 1) c) (n + 1) (J cTrap xs ++ cTrap x)) : Own w B (tsTrap A (n + 1) c (xs ++ [x])) := by
  have e : J cTrap (xs ++ [x]) = J cTrap xs ++ cTrap x := by rw [J_append]; simp [J]
  show w.ownsRow B _ 5 _ _ (J cTrap (xs ++ [x]))
  rw [e]; exact h

set_option maxRecDepth 100000 in
set_option maxHeartbeats 4000000 in
theorem DrawCountCauses_any (A : Option Addr) (n ca : Nat) (w : World) (h : Code w w.heap.size A n) :
    Calls Try.prog 42 #[.slice A n ca] w fun e w' => ∃ (A' : Option Addr) (n' c' : Nat) (xs : List RTrap), e = .returned (.slice A' n' c') ∧ n' ≤ 60 ∧ Own w' w.heap.size (tsTrap A' n' c' xs) ∧ Below w.heap.size w w' := by
  obtain ⟨i0, hi, hz0, hz1, hz2⟩ := info_parts Try.info35
  obtain ⟨w1, hw1⟩ : ∃ w1, w1 = w.alloc (.cells #[.slice A n ca, .int .i64 0, .int .u64 0] 90) := ⟨_, rfl⟩
  have hsz : w1.heap.size = w.heap.size + 1 := by rw [hw1]; simp
  have HB1 := Lib.hid (show Below w.heap.size w w1 by rw [hw1]; exact below_alloc w _)
  have R1 : Rw w.heap.size w1 w.heap.size 0 w1 := by rw [hw1]; exact Rw.start (Cu.new h)
  have HL := Lib.hid (show Lr w.heap.size w1 w.heap.size 0 (w1.alloc (.cells #[] 35)) (tsTrap (some ⟨w1.heap.size, 0, none⟩) 0 0 []) from ⟨R1.alloc _, own_empty 5 (Box.new w1 _ _) (Nat.le_refl _)⟩)
  have HSZ := Lib.hid hsz
  clear R1 h hsz
  go_enter Try.func42, Try.ntmps42
  go_upto_region 2 with (fail)
  rw [← hw1]
  clear hw1
  go_wp2_with fail
  refine (pick_any 8 HL.out.rw.cu (by omega) (by decide) (by decide)).mono ?_
  rintro e w2 ⟨m, ⟨hm0, hm1, _⟩, rfl, ⟨k1, hk1, hc1⟩, hf1⟩
  have hm2 := hm1 (by decide)
  have HL2 := Lib.hid (HL.out.step hc1 hf1)
  clear hc1 hf1 hm1 HL
  obtain ⟨m, rfl⟩ := Int.eq_ofNat_of_zero_le hm0
  go_wp2
  go_loopw [4, 5] (fun o i wr => ∃ (m l k c : Nat) (A : Option Addr) (xs : List RTrap), m ≤ 7 ∧ l + m ≤ 7 ∧ i = .int .i64 m ∧ o = .slice A l c ∧ k + 30 * m ≤ 300 ∧ Hid (Lr w.heap.size w1 w.heap.size k wr (tsTrap A l c xs))) (fun _ i _ => (intOf i).toNat)
  case atStart => exact ⟨m, 0, k1, 0, _, [], by omega, by omega, rfl, rfl, by omega, HL2⟩
  case round =>
    obtain ⟨m, l, k, c, A2, xs, hm, hl, rfl, rfl, hk, HLr⟩ := hrel
    clear HL2
    by_cases hlt : 0 < m
    · have h0 : (0 : Int) < (m : Int) := by omega
      go_wp2_with fail
      refine (trap_any HLr.out.rw.cu (by omega)).mono ?_
      rintro e w3 ⟨ct, wi, s, r, i, rfl, ⟨k3, hk3, hc3⟩, hf3⟩
      have HL3 := Lib.hid (HLr.out.step hc3 hf3)
      have hs3 : w.heap.size < w3.heap.size := by have := HL3.out.rw.size; have := HL3.out.rw.lt; omega
      clear hc3 hf3 HLr
      have HL4 := Lib.hid (HL3.out.alloc (.cells (trA ct wi s r i) 35))
      have HX4 := Lib.hid (Box.new w3 35 (trA ct wi s r i))
      clear HL3
      have C4 := HX4.out.cell
      cases hT : trapB ct wi s r i
      all_goals have HT := Lib.hid hT
      all_goals clear hT
      · go_wp2_with fail
        refine (l5Good_eq HT.out _).mono ?_
        rintro e w5 ⟨rfl, hb5⟩
        have HL5 := Lib.hid (HL4.out.below hb5)
        have HX5 := Lib.hid (HX4.out.keep hb5)
        clear hb5 HL4 HX4 C4
        go_wp2_with fail
        refine (one_any 4 HL5.out.rw.cu (by omega) (by decide) (by decide)).mono ?_
        rintro e w6 ⟨b, rfl, ⟨k6, hk6, hc6⟩, hf6⟩
        have HL6 := Lib.hid (HL5.out.step hc6 hf6)
        have HX6 := Lib.hid (HX5.out.farC hf6 (by omega))
        clear hc6 hf6 HL5 HX5
        have C6 := HX6.out.cell
        cases b
        · go_wp2
          go_roundw
          case rel =>
            refine ⟨m - 1, l, k6, c, A2, xs, by omega, by omega, ?_, rfl, by omega, HL6⟩
            rw [Int.natCast_sub (by omega)]; rfl
          case measure => simp [intOf]; omega
        · have hs6 := HL6.out.rw.size
          go_wp2_with (at_builtin; refine wpList_app _ rfl _ _ 60 rfl w1.heap.size 35 i0 (.agg #[.int .i64 0, .int .i64 0, .bool false, .int .i64 0, .int .i64 0]) 5 40 Try.underlying60 hi hz0 hz1 hz2 rfl (by decide) _ _ _ _ rfl (World.ownsRow.alloc HL6.out.own _) _ _ _ _ rfl (Rd.newRow _ _ _ 5 1 rfl) (by simp [Value.oneCell']) (by unfold maxLen; omega) (by omega) (by simp; omega) ?_; intro A' c' w9 hown hgrow hat)
          have HL9 := Lib.hid ((HL6.out.alloc _).app hgrow (own_rec (x := ⟨ct, wi, s, r, i⟩) hown))
          clear hgrow hown hat C6
          go_wp2
          go_roundw
          case rel =>
            refine ⟨m - 1, l + 1, k6, _, _, _, by omega, by omega, ?_, rfl, by omega, HL9⟩
            rw [Int.natCast_sub (by omega)]; rfl
          case measure => simp [intOf]; omega
      · go_wp2_with fail
        refine (l5Good_eq HT.out _).mono ?_
        rintro e w5 ⟨rfl, hb5⟩
        have HL5 := Lib.hid (HL4.out.below hb5)
        have HX5 := Lib.hid (HX4.out.keep hb5)
        clear hb5 HL4 HX4 C4
        have C5 := HX5.out.cell
        have hs5 := HL5.out.rw.size
        go_wp2_with (at_builtin; refine wpList_app _ rfl _ _ 60 rfl w1.heap.size 35 i0 (.agg #[.int .i64 0, .int .i64 0, .bool false, .int .i64 0, .int .i64 0]) 5 40 Try.underlying60 hi hz0 hz1 hz2 rfl (by decide) _ _ _ _ rfl (World.ownsRow.alloc HL5.out.own _) _ _ _ _ rfl (Rd.newRow _ _ _ 5 1 rfl) (by simp [Value.oneCell']) (by unfold maxLen; omega) (by omega) (by simp; omega) ?_; intro A' c' w9 hown hgrow hat)
        have HL9 := Lib.hid ((HL5.out.alloc _).app hgrow (own_rec (x := ⟨ct, wi, s, r, i⟩) hown))
        clear hgrow hown hat C5
        go_wp2
        go_roundw
        case rel =>
          refine ⟨m - 1, l + 1, k3, _, _, _, by omega, by omega, ?_, rfl, by omega, HL9⟩
          rw [Int.natCast_sub (by omega)]; rfl
        case measure => simp [intOf]; omega
    · obtain rfl : m = 0 := by omega
      go_wp2_with fail
      refine (one_any 24 HLr.out.rw.cu (by omega) (by decide) (by decide)).mono ?_
      rintro e w3 ⟨b, rfl, ⟨k3, hk3, hc3⟩, hf3⟩
      have HL3 := Lib.hid (HLr.out.step hc3 hf3)
      clear hc3 hf3 HLr
      cases b
      · go_wp2
        go_ret
        exact ⟨A2, l, c, xs, rfl, by omega, own_less HL3.out.own HB1.out.size, HB1.out.trans (HL3.out.rw.far.below (Nat.le_refl _) HB1.out.size)⟩
      · go_wp2
        go_loopw [4] (fun o wr => ∃ (l k c : Nat) (A : Option Addr) (xs : List RTrap), l ≤ 51 ∧ o = .slice A l c ∧ k + 2 * (60 - l) ≤ 600 ∧ Hid (Lr w.heap.size w1 w.heap.size k wr (tsTrap A l c xs))) (fun o _ => 60 - lenOf o)
        case atStart => exact ⟨l, k3, c, A2, xs, by omega, rfl, by omega, HL3⟩
        case round =>
          obtain ⟨l, k, c, A2, xs, hl, rfl, hk, HLr⟩ := hrel
          clear HL3
          go_wp2_with fail
          refine (pick_any 2 HLr.out.rw.cu (by omega) (by decide) (by decide)).mono ?_
          rintro e w4 ⟨y, ⟨hy0, hy1, _⟩, rfl, ⟨k4, hk4, hc4⟩, hf4⟩
          have hy2 := hy1 (by decide)
          have HL4 := Lib.hid (HLr.out.step hc4 hf4)
          clear hc4 hf4 hy1 HLr
          have hy3 : y = 0 ∨ y = 1 := by omega
          clear hy0 hy2
          by_cases hlt : (l : Int) < 50 + y
          · have h0 : l < 51 := by omega
            have hs4 := HL4.out.rw.size
            go_wp2_with (at_builtin; refine wpList_app _ rfl _ _ 60 rfl w1.heap.size 35 i0 (.agg #[.int .i64 0, .int .i64 0, .bool false, .int .i64 0, .int .i64 0]) 5 40 Try.underlying60 hi hz0 hz1 hz2 rfl (by decide) _ _ _ _ rfl (World.ownsRow.alloc HL4.out.own _) _ _ _ _ rfl (Rd.newRow _ _ _ 5 1 rfl) (by simp [Value.oneCell']) (by unfold maxLen; omega) (by omega) (by simp; omega) ?_; intro A' c' w9 hown hgrow hat)
            have HL9 := Lib.hid ((HL4.out.alloc _).app hgrow (own_rec (x := ⟨4, 0, false, 0, 0⟩) hown))
            clear hgrow hown hat
            go_wp2
            go_roundw
            case rel => exact ⟨l + 1, k4, _, _, _, by omega, rfl, by omega, HL9⟩
            case measure => show 60 - (l + 1) < 60 - l; omega
          · have h5 : l < 60 ∧ (y = 0 → 50 ≤ l) ∧ (y = 1 → 51 ≤ l) := by omega
            have H5 := Lib.hid h5
            clear hlt hk hk4 hl h5
            rcases hy3 with rfl | rfl
            · have hd : decide ((l : Int) < 50) = false := by have := H5.out.2.1 rfl; simp; omega
              go_wp2
              go_ret
              exact ⟨A2, l, c, xs, rfl, by have := H5.out.1; omega, own_less HL4.out.own HB1.out.size, HB1.out.trans (HL4.out.rw.far.below (Nat.le_refl _) HB1.out.size)⟩
            · have hd : decide ((l : Int) < 51) = false := by have := H5.out.2.2 rfl; simp; omega
              go_wp2
              go_ret
              exact ⟨A2, l, c, xs, rfl, by have := H5.out.1; omega, own_less HL4.out.own HB1.out.size, HB1.out.trans (HL4.out.rw.far.below (Nat.le_refl _) HB1.out.size)⟩
end Go.Proofs.Ytcdocgmikpccoaa
