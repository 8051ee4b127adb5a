/- Contracts of the reader of choices: program. What is drawn is any list of at most 20 instructions. -/
import Derived.Test.YtlahpnihnpmgoaaGd
import Derived.Test.YtlahpnihnpmgoaaLr
import Derived.Test.YtlahpnihnpmgoaaStInstruction
namespace Go.Proofs.Ytlahpnihnpmgoaa
open Go.RowKit
set_option linter.unusedVariables false
set_option linter.unusedSimpArgs false
attribute [local go_sem ↓] Go.wp_at_zero Go.wp_at_succ

theorem own_ins {w : World} {B n c : Nat} {A : Option Addr} {xs : List RInstruction} {x : RInstruction} (h : w.ownsRow B 52 4 (.slice A (n + 1) c) (n + 1) (J cInstruction xs ++ cInstruction x)) : Own w B (tsInstruction A (n + 1) c (xs ++ [x])) := by
  have e : J cInstruction (xs ++ [x]) = J cInstruction xs ++ cInstruction x := by rw [J_append]; simp [J]
  show w.ownsRow B _ 4 _ _ (J cInstruction (xs ++ [x]))
  rw [e]; exact h
theorem own_cut {w : World} {B g n c : Nat} {xs : List RInstruction} (h : Own w B (tsInstruction (some ⟨g, 0, none⟩) n c xs)) : Own w B (tsInstruction (some ⟨g, 0, none⟩) 0 c []) := by
  refine ⟨by simp [J], ?_⟩
  rcases h.2 with ⟨hv, _⟩ | ⟨g', cap, cur, hv, hB, hg, hnc, hcm, hsz, htk⟩
  · cases hv
  · cases hv
    exact .inr ⟨g, c, cur, rfl, hB, hg, Nat.zero_le _, hcm, hsz, by simp [J]⟩
theorem Lr.put {B : Nat} {w : World} {g k : Nat} {wx : World} {t : Thing} (L : Lr B w g k wx t) {b : Nat} (hb : w.heap.size ≤ b) (hne : blk t.A ≠ some b) (p : Nat) (u : Value) : Lr B w g k (wx.setCell ⟨b, p, none⟩ u) t :=
  ⟨L.rw.put hb p u, World.ownsRow.kept (row := some b) L.own (grown_put b p u) (by rw [ownBlock_slice]; exact .inr hne)⟩
/-- inside program: the list, the variable of the instruction -/
def PrX (B : Nat) (w : World) (g K gx : Nat) (t : Thing) (wx : World) : Prop := ∃ (k : Nat) (o a b n : Int), k ≤ K ∧ Lr B w g k wx t ∧ Box wx gx 52 (inA o a b n)
def lenPr : Value → Nat
  | .slice _ l _ => l
  | _ => 0
set_option maxRecDepth 100000 in
set_option maxHeartbeats 8000000 in
theorem program_any {w : World} {B g k : Nat} (h : Cu w B g k) (hk : k ≤ 600000) :
    Calls Try.prog 34 #[.pointer (some ⟨g, 0, none⟩)] w fun e w' => ∃ (A' : Option Addr) (n' c' : Nat) (xs : List RInstruction), e = .returned (.slice A' n' c') ∧ n' ≤ 20 ∧ Own w' w.heap.size (tsInstruction A' n' c' xs) ∧ (∃ k', k' ≤ k + 500 ∧ Cu w' B g k') ∧ Far g w w' := by
  obtain ⟨i0, hi, hz0, hz1, hz2⟩ := info_parts Try.info52
  have HL := Lib.hid (show Lr B w g k (w.alloc (.cells #[] 52)) (tsInstruction (some ⟨w.heap.size, 0, none⟩) 0 0 []) from ⟨(Rw.start h).alloc _, own_empty 4 (Box.new w _ _) (Nat.le_refl _)⟩)
  clear h
  go_enter Try.func34, Try.ntmps34
  go_wp2_with fail
  refine (pick_any 8 HL.out.rw.cu (by omega) (by decide) (by decide)).mono ?_
  rintro e w2 ⟨m, ⟨hm0, hm1, _⟩, rfl, ⟨k1, hk1, hc1⟩, hf1⟩
  have hm2 := hm1 (by decide)
  have HL2 := Lib.hid (HL.out.step hc1 hf1)
  clear hc1 hf1 hm1 HL
  obtain ⟨m, rfl⟩ := Int.eq_ofNat_of_zero_le hm0
  go_wp2
  go_loopw [3, 4, 5] (fun o i _ wr => ∃ (m l q c : Nat) (A : Option Addr) (xs : List RInstruction), m ≤ 8 ∧ l + m ≤ 8 ∧ 1 ≤ l + m ∧ i = .int .i64 m ∧ o = .slice A l c ∧ q + 30 * m ≤ k + 260 ∧ Hid (Lr B w g q wr (tsInstruction A l c xs))) (fun _ i _ _ => (intOf i).toNat)
  case atStart => exact ⟨1 + m, 0, k1, 0, _, [], by omega, by omega, by omega, by go_num, rfl, by omega, HL2⟩
  case round =>
    obtain ⟨m, l, q, c, A2, xs, hm, hl, hl1, rfl, rfl, hk, HLr⟩ := hrel
    clear HL2
    by_cases hlt : 0 < m
    · have h0 : (0 : Int) < (m : Int) := by omega
      go_wp2_with fail
      refine (instruction_any HLr.out.rw.cu (by omega)).mono ?_
      rintro e w3 ⟨io, ia, ib, in_, rfl, ⟨k3, hk3, hc3⟩, hf3⟩
      have HL3 := Lib.hid (HLr.out.step hc3 hf3)
      have hs3 : w.heap.size ≤ w3.heap.size := HL3.out.rw.size
      have hg3 : g < w3.heap.size := by have := HL3.out.rw.size; have := HL3.out.rw.lt; omega
      clear hc3 hf3 HLr
      have HX4 := Lib.hid (Box.new w3 52 (inA io ia ib in_))
      have HL4 := Lib.hid (HL3.out.alloc (.cells (inA io ia ib in_) 52))
      have hbl := Lib.hid (show blk A2 ≠ some w3.heap.size from fun e => by have := (World.ownsRow.lt HL3.out.own w3.heap.size (by rw [ownBlock_slice]; exact e)).2; omega)
      clear HL3
      go_upto_region 6 with (fail)
      obtain ⟨w4, hw4⟩ : ∃ w4, w4 = w3.alloc (.cells #[.int .i64 io, .int .i64 ia, .int .i64 ib, .int .i64 in_] 52) := ⟨_, rfl⟩
      obtain ⟨gx, hgx⟩ : ∃ gx, gx = w3.heap.size := ⟨_, rfl⟩
      rw [← hw4, ← hgx]
      rw [← hw4] at HX4 HL4
      rw [← hgx] at HX4 hbl hs3 hg3
      clear hw4 hgx
      have C4 := HX4.out.cell
      go_cut [23] from 16 to 22 (fun t wx => ∃ b : Bool, t = .bool b ∧ Hid (PrX B w g (k3 + 2) gx (tsInstruction A2 l c xs) wx))
      case first =>
        by_cases hz : io = 0
        · have hzb : (io == 0) = true := by simp [hz]
          clear hz
          go_wp2_with fail
          refine (one_any 4 HL4.out.rw.cu (by omega) (by decide) (by decide)).mono ?_
          rintro e w5 ⟨b, rfl, ⟨k5, hk5, hc5⟩, hf5⟩
          have HP5 := Lib.hid (show PrX B w g (k3 + 2) gx (tsInstruction A2 l c xs) w5 from ⟨k5, io, ia, ib, in_, hk5, HL4.out.step hc5 hf5, HX4.out.farC hf5 (by omega)⟩)
          clear hc5 hf5
          go_wp2
          go_meet
          exact ⟨_, rfl, HP5⟩
        · have hzb : (io == 0) = false := by simp [hz]
          clear hz
          go_wp2
          go_meet
          exact ⟨_, rfl, Lib.hid ⟨k3, io, ia, ib, in_, by omega, HL4.out, HX4.out⟩⟩
      case rest =>
        obtain ⟨bt, rfl, HP5⟩ := hcut
        clear HL4 HX4 C4
        go_upto_if 23 with (fail)
        go_cut [5] from 24 to 24 (fun t wx => t = .pointer (some ⟨gx, 0, none⟩) ∧ Hid (PrX B w g (k3 + 2) gx (tsInstruction A2 l c xs) wx))
        case first =>
          obtain ⟨k5, o5, a5, b5, n5, hk5, hL5, hX5⟩ := HP5.out
          have HL5 := Lib.hid hL5
          have HX5 := Lib.hid hX5
          clear hL5 hX5 HP5
          cases bt
          · go_wp2
            go_meet
            exact ⟨rfl, Lib.hid ⟨k5, o5, a5, b5, n5, hk5, HL5.out, HX5.out⟩⟩
          · have C5 := HX5.out.cell
            have F5 := HX5.out.free
            have HP6 := Lib.hid (show PrX B w g (k3 + 2) gx (tsInstruction A2 l c xs) ((((wc.setCell ⟨gx, 0, none⟩ (.int .i64 3)).setCell ⟨gx, 1, none⟩ (.int .i64 0)).setCell ⟨gx, 2, none⟩ (.int .i64 1)).setCell ⟨gx, 3, none⟩ (.int .i64 0)) from
              ⟨k5, 3, 0, 1, 0, hk5, (((HL5.out.put hs3 hbl.out 0 _).put hs3 hbl.out 1 _).put hs3 hbl.out 2 _).put hs3 hbl.out 3 _, (((HX5.out.put 0 _).put 1 _).put 2 _).put 3 _⟩)
            go_wp2
            go_meet
            exact ⟨rfl, HP6⟩
        case rest =>
          obtain ⟨rfl, HP6⟩ := hcut
          clear HP5
          obtain ⟨k5, o5, a5, b5, n5, hk5, hL5, hX5⟩ := HP6.out
          have HL5 := Lib.hid hL5
          have C5 := hX5.cell
          have hs5 := hL5.rw.size
          clear hL5 hX5 HP6
          go_wp2_with (at_builtin; refine wpList_app _ rfl _ _ 27 rfl w.heap.size 52 i0 (.agg #[.int .i64 0, .int .i64 0, .int .i64 0, .int .i64 0]) 4 32 Try.underlying27 hi hz0 hz1 hz2 rfl (by decide) _ _ _ _ rfl (World.ownsRow.alloc HL5.out.own _) _ _ _ _ rfl (Rd.newRow _ _ _ 4 1 rfl) (by simp [Value.oneCell']) (by unfold maxLen; omega) (by omega) (by simp; omega) ?_; intro A' c' w9 hown hgrow hat)
          have HL9 := Lib.hid ((HL5.out.alloc _).app hgrow (own_ins (x := ⟨o5, a5, b5, n5⟩) hown))
          clear hgrow hown hat C5
          go_wp2
          go_roundw
          case rel =>
            refine ⟨m - 1, l + 1, k5, _, _, _, by omega, by omega, by omega, ?_, rfl, by omega, HL9⟩
            rw [Int.natCast_sub (by omega)]; rfl
          case measure => simp [intOf]; omega
    · obtain rfl : m = 0 := by omega
      go_wp2_with fail
      refine (pick_any 40 HLr.out.rw.cu (by omega) (by decide) (by decide)).mono ?_
      rintro e w3 ⟨y, ⟨hy0, _, _⟩, rfl, ⟨k3, hk3, hc3⟩, hf3⟩
      have HL3 := Lib.hid (HLr.out.step hc3 hf3)
      clear hc3 hf3 HLr
      have hy : y = 0 ∨ y = 1 ∨ 1 < y := by omega
      rcases hy with rfl | rfl | hy
      · obtain ⟨g2, rfl, _, _⟩ := own_someS HL3.out.own (by show 0 < l; omega)
        have HO3 := Lib.hid (own_cut HL3.out.own)
        go_wp2
        go_ret
        exact ⟨_, 0, c, [], rfl, by omega, HO3.out, ⟨k3, by omega, HL3.out.rw.cu⟩, HL3.out.rw.far⟩
      · go_wp2
        go_loopw [3] (fun o wr => ∃ (l q c : Nat) (A : Option Addr) (xs : List RInstruction), l ≤ 17 ∧ o = .slice A l c ∧ q + 2 * (20 - l) ≤ k + 310 ∧ Hid (Lr B w g q wr (tsInstruction A l c xs))) (fun o _ => 20 - lenPr o)
        case atStart => exact ⟨l, k3, c, A2, xs, by omega, rfl, by omega, HL3⟩
        case round =>
          obtain ⟨l, q, c, A2, xs, hl, rfl, hk, HLr⟩ := hrel
          clear HL3
          go_wp2_with fail
          refine (pick_any 2 HLr.out.rw.cu (by omega) (by decide) (by decide)).mono ?_
          rintro e w4 ⟨y, ⟨hy0, hy1, _⟩, rfl, ⟨k4, hk4, hc4⟩, hf4⟩
          have hy2 := hy1 (by decide)
          have HL4 := Lib.hid (HLr.out.step hc4 hf4)
          have hs4 := HL4.out.rw.size
          clear hc4 hf4 hy1 HLr
          have hy3 : y = 0 ∨ y = 1 := by omega
          clear hy0 hy2
          by_cases hlt : (l : Int) < 16 + y
          · have h0 : l < 17 := by omega
            go_wp2_with (at_builtin; refine wpList_app _ rfl _ _ 27 rfl w.heap.size 52 i0 (.agg #[.int .i64 0, .int .i64 0, .int .i64 0, .int .i64 0]) 4 32 Try.underlying27 hi hz0 hz1 hz2 rfl (by decide) _ _ _ _ rfl (World.ownsRow.alloc HL4.out.own _) _ _ _ _ rfl (Rd.newRow _ _ _ 4 1 rfl) (by simp [Value.oneCell']) (by unfold maxLen; omega) (by omega) (by simp; omega) ?_; intro A' c' w9 hown hgrow hat)
            have HL9 := Lib.hid ((HL4.out.alloc _).app hgrow (own_ins (x := ⟨2, 0, 0, 0⟩) hown))
            clear hgrow hown hat
            go_wp2
            go_roundw
            case rel => exact ⟨l + 1, k4, _, _, _, by omega, rfl, by omega, HL9⟩
            case measure => show 20 - (l + 1) < 20 - l; omega
          · have h5 : l < 20 ∧ (y = 0 → 16 ≤ l) ∧ (y = 1 → 17 ≤ l) := by omega
            have H5 := Lib.hid h5
            clear hlt h5
            rcases hy3 with rfl | rfl
            · have hd : decide ((l : Int) < 16) = false := by have := H5.out.2.1 rfl; simp; omega
              go_wp2
              go_ret
              exact ⟨A2, l, c, xs, rfl, by omega, HL4.out.own, ⟨k4, by omega, HL4.out.rw.cu⟩, HL4.out.rw.far⟩
            · have hd : decide ((l : Int) < 17) = false := by have := H5.out.2.2 rfl; simp; omega
              go_wp2
              go_ret
              exact ⟨A2, l, c, xs, rfl, by omega, HL4.out.own, ⟨k4, by omega, HL4.out.rw.cu⟩, HL4.out.rw.far⟩
      · have y0 : (y == 0) = false := by simp; omega
        have y1 : (y == 1) = false := by simp; omega
        go_wp2
        go_ret
        exact ⟨A2, l, c, xs, rfl, by omega, HL3.out.own, ⟨k3, by omega, HL3.out.rw.cu⟩, HL3.out.rw.far⟩
end Go.Proofs.Ytlahpnihnpmgoaa
