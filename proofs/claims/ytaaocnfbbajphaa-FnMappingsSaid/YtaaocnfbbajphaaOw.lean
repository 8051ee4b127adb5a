/- Contracts of the reader of choices: owners, guest. What is drawn is any list of at most 20 numbers. -/
import Derived.Test.YtaaocnfbbajphaaLr
import Derived.Test.YtaaocnfbbajphaaSmall
namespace Go.Proofs.Ytaaocnfbbajphaa
open Go.RowKit
set_option linter.unusedVariables false
set_option linter.unusedSimpArgs false

set_option maxHeartbeats 1000000 in
theorem guest_any {w : World} {B g k : Nat} (h : Cu w B g k) (hk : k ≤ 800000) :
    Calls Try.prog 66 #[.pointer (some ⟨g, 0, none⟩)] w fun e w' => ∃ q : Int, (-1 ≤ q ∧ q ≤ 5) ∧ e = .returned (.int .i64 q) ∧ (∃ k', k' ≤ k + 2 ∧ Cu w' B g k') ∧ Far g w w' := by
  have HCu := Lib.hid h
  clear h
  go_enter Try.func66, Try.ntmps66
  go_wp2_with fail
  refine (among_lit (-1) 5 12 _ _ HCu.out (by omega) rfl (by omega) (by omega) (by decide)).mono ?_
  rintro e w1 ⟨q, hq, rfl, hc, hf⟩
  have HC := Lib.hid hc
  clear hc
  go_wp2
  go_ret
  exact ⟨q, hq, rfl, HC.out, hf⟩

set_option maxRecDepth 100000 in
set_option maxHeartbeats 4000000 in
theorem owners_any {w : World} {B g k : Nat} (h : Cu w B g k) (hk : k ≤ 700000) :
    Calls Try.prog 65 #[.pointer (some ⟨g, 0, none⟩)] w fun e w' => ∃ (A' : Option Addr) (n' c' : Nat) (xs : List Int), e = .returned (.slice A' n' c') ∧ n' ≤ 20 ∧ Own w' w.heap.size (ti A' n' c' xs) ∧ (∃ k', k' ≤ k + 200 ∧ Cu w' B g k') ∧ Far g w w' := by
  obtain ⟨i0, hi, hz0, hz1, hz2⟩ := info_parts Try.info3
  have HL := Lib.hid (show Lr B w g k (w.alloc (.cells #[] 3)) (ti (some ⟨w.heap.size, 0, none⟩) 0 0 []) from ⟨(Rw.start h).alloc _, own_empty 1 (Box.new w _ _) (Nat.le_refl _)⟩)
  clear h
  go_enter Try.func65, Try.ntmps65
  go_wp2_with fail
  refine (pick_any 16 HL.out.rw.cu (by omega) (by decide) (by decide)).mono ?_
  rintro e w2 ⟨m, ⟨hm0, hm1, _⟩, rfl, ⟨k1, hk1, hc1⟩, hf1⟩
  have hm2 := hm1 (by decide)
  have HL2 := Lib.hid (HL.out.step hc1 hf1)
  clear hc1 hf1 hm1 HL
  obtain ⟨m, rfl⟩ := Int.eq_ofNat_of_zero_le hm0
  go_wp2
  go_loopw [3, 4] (fun o i wr => ∃ (m l q c : Nat) (A : Option Addr) (xs : List Int), m ≤ 16 ∧ l + m ≤ 16 ∧ 1 ≤ l + m ∧ i = .int .i64 m ∧ o = .slice A l c ∧ q + 2 * m ≤ k + 60 ∧ Hid (Lr B w g q wr (ti A l c xs))) (fun _ i _ => (intOf i).toNat)
  case atStart => exact ⟨1 + m, 0, k1, 0, _, [], by omega, by omega, by omega, by go_num, rfl, by omega, HL2⟩
  case round =>
    obtain ⟨m, l, q, c, A2, xs, hm, hl, hl1, rfl, rfl, hk, HLr⟩ := hrel
    clear HL2
    by_cases hlt : 0 < m
    · have h0 : (0 : Int) < (m : Int) := by omega
      go_wp2_with fail
      refine (among_lit 0 4 8 _ _ HLr.out.rw.cu (by omega) rfl (by omega) (by omega) (by decide)).mono ?_
      rintro e w3 ⟨x, _, rfl, ⟨k3, hk3, hc3⟩, hf3⟩
      have HL3 := Lib.hid ((HLr.out).step hc3 hf3)
      have hs3 := HL3.out.rw.size
      clear hc3 hf3 HLr
      go_wp2_with (at_builtin; refine wpList_app _ rfl _ _ 24 rfl w.heap.size 3 i0 (.int .i64 0) 1 8 Try.underlying24 hi hz0 hz1 hz2 rfl (by decide) _ _ _ _ rfl (World.ownsRow.alloc HL3.out.own _) _ _ _ _ rfl (Rd.one _ _ _) (by simp [Value.oneCell']) (by unfold maxLen; omega) (by omega) (by simp; omega) ?_; intro A' c' w9 hown hgrow hat)
      have HL9 := Lib.hid ((HL3.out.alloc _).app hgrow (own_int hown))
      clear hgrow hown hat HL3
      go_wp2
      go_roundw
      case rel =>
        refine ⟨m - 1, l + 1, k3, _, _, _, by omega, by omega, by omega, ?_, rfl, by omega, HL9⟩
        rw [Int.natCast_sub (by omega)]; rfl
      case measure => simp [intOf]; omega
    · obtain rfl : m = 0 := by omega
      go_wp2_with fail
      refine (pick_any 24 HLr.out.rw.cu (by omega) (by decide) (by decide)).mono ?_
      rintro e w3 ⟨y, ⟨hy0, _, _⟩, rfl, ⟨k3, hk3, hc3⟩, hf3⟩
      have HL3 := Lib.hid (HLr.out.step hc3 hf3)
      clear hc3 hf3 HLr
      have hy : y = 0 ∨ y = 1 ∨ y = 2 ∨ 2 < y := by omega
      rcases hy with rfl | rfl | rfl | hy
      · go_wp2_with fail
        refine (pick_any (l : Int) HL3.out.rw.cu (by omega) (by omega) (by omega)).mono ?_
        rintro e w4 ⟨x, ⟨hx0, hx1, _⟩, rfl, ⟨k4, hk4, hc4⟩, hf4⟩
        have hx2 := hx1 (by omega)
        have HL4 := Lib.hid (HL3.out.step hc4 hf4)
        clear hc4 hf4 hx1 HL3
        obtain ⟨x, rfl⟩ := Int.eq_ofNat_of_zero_le hx0
        go_wp2_with fail
        refine (among_lit (-1) 5 2 _ _ HL4.out.rw.cu (by omega) rfl (by omega) (by omega) (by decide)).mono ?_
        rintro e w5 ⟨z, _, rfl, ⟨k5, hk5, hc5⟩, hf5⟩
        have HL5 := Lib.hid (HL4.out.step hc5 hf5)
        clear hc5 hf5 HL4
        obtain ⟨g2, rfl, hg2, _⟩ := own_someS HL5.out.own (by show 0 < l; omega)
        obtain ⟨⟨y2, hc⟩, hfz, hown, hgr⟩ := own_store HL5.out.own (k := x) (by omega) z
        have HL6 := Lib.hid (HL5.out.app hgr hown)
        clear hown hgr HL5
        have h1 : (x : Int) < (l : Int) := by omega
        go_wp2
        go_ret
        exact ⟨_, l, c, _, rfl, by omega, HL6.out.own, ⟨k5, by omega, HL6.out.rw.cu⟩, HL6.out.rw.far⟩
      · have HL4 := Lib.hid (Lr.fresh (HL3.out.rw.alloc (.cells #[] 3)) (t2 := ti (some ⟨w3.heap.size, 0, none⟩) 0 0 []) (own_empty 1 (Box.new w3 _ _) HL3.out.rw.size))
        go_wp2
        go_ret
        exact ⟨_, 0, 0, [], rfl, by omega, HL4.out.own, ⟨k3, by omega, HL4.out.rw.cu⟩, HL4.out.rw.far⟩
      · go_wp2
        go_loopw [3] (fun o wr => ∃ (l q c : Nat) (A : Option Addr) (xs : List Int), l ≤ 17 ∧ o = .slice A l c ∧ q + 2 * (20 - l) ≤ k + 110 ∧ Hid (Lr B w g q wr (ti A l c xs))) (fun o _ => 20 - lenSl o)
        case atStart => exact ⟨l, k3, c, A2, xs, by omega, rfl, by omega, HL3⟩
        case round =>
          obtain ⟨l, q, c, A2, xs, hl, rfl, hk, HLr⟩ := hrel
          clear HL3
          go_wp2_with fail
          refine (pick_any 2 HLr.out.rw.cu (by omega) (by decide) (by decide)).mono ?_
          rintro e w4 ⟨y, ⟨hy0, hy1, _⟩, rfl, ⟨k4, hk4, hc4⟩, hf4⟩
          have hy2 := hy1 (by decide)
          have HL4 := Lib.hid (HLr.out.step hc4 hf4)
          have hs4 := HL4.out.rw.size
          clear hc4 hf4 hy1 HLr
          have hy3 : y = 0 ∨ y = 1 := by omega
          clear hy0 hy2
          by_cases hlt : (l : Int) < 16 + y
          · have h0 : l < 17 := by omega
            go_wp2_with (at_builtin; refine wpList_app _ rfl _ _ 24 rfl w.heap.size 3 i0 (.int .i64 0) 1 8 Try.underlying24 hi hz0 hz1 hz2 rfl (by decide) _ _ _ _ rfl (World.ownsRow.alloc HL4.out.own _) _ _ _ _ rfl (Rd.one _ _ _) (by simp [Value.oneCell']) (by unfold maxLen; omega) (by omega) (by simp; omega) ?_; intro A' c' w9 hown hgrow hat)
            have HL9 := Lib.hid ((HL4.out.alloc _).app hgrow (own_int hown))
            clear hgrow hown hat
            go_wp2
            go_roundw
            case rel => exact ⟨l + 1, k4, _, _, _, by omega, rfl, by omega, HL9⟩
            case measure => show 20 - (l + 1) < 20 - l; omega
          · have h5 : l < 20 ∧ (y = 0 → 16 ≤ l) ∧ (y = 1 → 17 ≤ l) := by omega
            have H5 := Lib.hid h5
            clear hlt h5
            rcases hy3 with rfl | rfl
            · have hd : decide ((l : Int) < 16) = false := by have := H5.out.2.1 rfl; simp; omega
              go_wp2
              go_ret
              exact ⟨A2, l, c, xs, rfl, by omega, HL4.out.own, ⟨k4, by omega, HL4.out.rw.cu⟩, HL4.out.rw.far⟩
            · have hd : decide ((l : Int) < 17) = false := by have := H5.out.2.2 rfl; simp; omega
              go_wp2
              go_ret
              exact ⟨A2, l, c, xs, rfl, by omega, HL4.out.own, ⟨k4, by omega, HL4.out.rw.cu⟩, HL4.out.rw.far⟩
      · have y0 : (y == 0) = false := by simp; omega
        have y1 : (y == 1) = false := by simp; omega
        have y2 : (y == 2) = false := by simp; omega
        go_wp2
        go_ret
        exact ⟨A2, l, c, xs, rfl, by omega, HL3.out.own, ⟨k3, by omega, HL3.out.rw.cu⟩, HL3.out.rw.far⟩
end Go.Proofs.Ytaaocnfbbajphaa
