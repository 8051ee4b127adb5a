/- Contract of the reference's ParseAssembly: the one instruction that has this text, if there is one. Lengths at most 2^20. -/
import Derived.Test.YtlahpnihnpmgoaaDoorPe
namespace Go.Proofs.YtlahpnihnpmgoaaDoor
open Go.RowKit
set_option linter.unusedVariables false
set_option linter.unusedSimpArgs false

set_option maxHeartbeats 1000000 in
theorem l3Register_any (u : List UInt8) (w : World) (hn : u.length ≤ 1048576) :
    Calls Tryd.prog 26 #[.string ⟨u.toArray⟩] w fun e w' => e = .returned (.int .i64 (sreg u)) ∧ Below w.heap.size w w' := by
  by_cases h2 : u.length = 2
  · obtain ⟨c, d, rfl⟩ : ∃ c d, u = [c, d] := by
      match u, h2 with
      | [c, d], _ => exact ⟨c, d, rfl⟩
    have HEX := Lib.hid (show (⟨[c, d].toArray⟩ : ByteArray).extract 1 2 = ⟨[d].toArray⟩ from ext_mk [c, d] 1 2)
    have HS := Lib.hid (show sreg [c, d] = parN [d] from rfl)
    clear h2 hn
    go_enter Tryd.func26, Tryd.ntmps26
    go_wp2_with fail
    try rw [HEX.out]
    refine (l1Read_any [d] _ (by simp)).mono ?_
    rintro e w1 ⟨rfl, hb⟩
    go_wp2
    go_ret
    rw [HS.out]
    exact ⟨rfl, hb⟩
  · have hz : ((u.length : Int) != 2) = true := by simp; omega
    have HS := Lib.hid (show sreg u = 0 by unfold sreg; rw [if_neg h2])
    go_enter Tryd.func26, Tryd.ntmps26
    go_wp2
    go_ret
    rw [HS.out]
    exact ⟨rfl, Below.refl _ _⟩
theorem l1Split_32 (l : List UInt8) (w : World) (hn : l.length ≤ 1048576) :
    Calls Tryd.prog 24 #[.string ⟨l.toArray⟩, .int .u8 32] w fun e w' => ∃ A c, e = .returned (.slice A (splitR 32 l).length c) ∧ Own w' w.heap.size (tt A (splitR 32 l).length c (splitR 32 l)) ∧ Below w.heap.size w w' := by
  have h := l1Split_any l 32 w hn
  rw [splitL_R] at h
  exact h
theorem wanted_no {b : Bool} {A B : Prop} (h : b = false) (hk : B) : if b = true then A else B := by subst h; exact hk
theorem l3Names_m {m : Nat} {nm : List UInt8} (h : opN[m]? = some nm) (w : World) : Calls Tryd.prog 28 #[] w fun e w' => e = .returned (.slice (some ⟨w.heap.size, 0, none⟩) 10 10) ∧ w'.cell? ⟨w.heap.size, m, none⟩ = some (.string ⟨nm.toArray⟩) ∧ Below w.heap.size w w' := by
  refine (l3Names_any w).mono ?_
  rintro e w' ⟨he, rfl⟩
  refine ⟨he, ?_, below_alloc _ _⟩
  rw [(Box.new w 9 _).cell m]
  have h2 : (T opN)[m]? = some (.string ⟨nm.toArray⟩) := T_get h
  rw [← h2]
  simp [T, opN]
/-- inside the loop: what was there, and the variable of the instruction -/
structure Xs (w wx : World) (g6 : Nat) (o a b n : Int) : Prop where
  bel : Below w.heap.size w wx
  box : Box wx g6 26 #[.int .i64 o, .int .i64 a, .int .i64 b, .int .i64 n]
  lo : w.heap.size ≤ g6
theorem Xs.step {w wx wy : World} {g6 : Nat} {o a b n : Int} (S : Xs w wx g6 o a b n) (hb : Below wx.heap.size wx wy) : Xs w wy g6 o a b n := ⟨below_next S.bel hb, S.box.keep hb, S.lo⟩
theorem Xs.put1 {w wx : World} {g6 : Nat} {o a b n : Int} (S : Xs w wx g6 o a b n) (x : Int) : Xs w (wx.setCell ⟨g6, 1, none⟩ (.int .i64 x)) g6 o x b n := ⟨S.bel.setCell S.lo _, S.box.put 1 _, S.lo⟩
theorem Xs.put2 {w wx : World} {g6 : Nat} {o a b n : Int} (S : Xs w wx g6 o a b n) (x : Int) : Xs w (wx.setCell ⟨g6, 2, none⟩ (.int .i64 x)) g6 o a x n := ⟨S.bel.setCell S.lo _, S.box.put 2 _, S.lo⟩
theorem Xs.put3 {w wx : World} {g6 : Nat} {o a b n : Int} (S : Xs w wx g6 o a b n) (x : Int) : Xs w (wx.setCell ⟨g6, 3, none⟩ (.int .i64 x)) g6 o a b x := ⟨S.bel.setCell S.lo _, S.box.put 3 _, S.lo⟩
/-- no instruction with an op below m has this text -/
def NoB (l : List UInt8) (m : Nat) : Prop := ∀ o a b n, insB o a b n = true → o < (m : Int) → ¬ asmL o a b n = l
theorem NoB.all {l : List UInt8} (h : NoB l 10) : NoA l := fun o a b n hy => h o a b n hy (by have := (insB_bd hy).1.2; omega)
theorem NoB.next {l : List UInt8} {m : Nat} (h : NoB l m) (hm : ∀ a b n, insB (m : Int) a b n = true → ¬ asmL (m : Int) a b n = l) : NoB l (m + 1) := fun o a b n hy ho => by
  by_cases e : o = (m : Int)
  · subst e; exact hm a b n hy
  · exact h o a b n hy (by omega)

set_option maxRecDepth 100000 in
set_option maxHeartbeats 8000000 in
theorem s_ParseAssembly_any (l : List UInt8) (w : World) (hn : l.length ≤ 1048576) :
    Calls Tryd.prog 9 #[.string ⟨l.toArray⟩] w fun e w' => PaP l w e w' := by
  have HX := Lib.hid (Box.new w 26 #[.int .i64 0, .int .i64 0, .int .i64 0, .int .i64 0])
  go_enter Tryd.func9, Tryd.ntmps9
  go_wp2_with fail
  refine (l1Split_32 l _ hn).mono ?_
  rintro e w1 ⟨A, c, rfl, ho, hb⟩
  have hlw : ∀ u ∈ splitR 32 l, u.length ≤ 1048576 := fun u hu => Nat.le_trans (splitR_len hu) hn
  obtain ⟨ws, hws⟩ : ∃ ws, ws = splitR 32 l := ⟨_, rfl⟩
  obtain ⟨nw, hnw⟩ : ∃ k, k = ws.length := ⟨_, rfl⟩
  have hln : (splitR 32 l).length ≤ l.length + 1 := by rw [← splitL_R]; exact splitL_len 32 l
  have hws1 : ∃ w0 wt, ws = w0 :: wt := by rw [hws]; exact splitR_ne 32 l
  have HWS := Lib.hid hws
  rw [← hws] at ho hlw hln
  rw [← hws]
  rw [← hnw] at ho hln
  rw [← hnw]
  obtain ⟨w0, wt, hwt⟩ := hws1
  have hnw1 : 1 ≤ nw := by rw [hnw, hwt]; simp
  have HWT := Lib.hid hwt
  have HNW := Lib.hid hnw
  have HLW := Lib.hid hlw
  have HRW := Lib.hid (show Rd w1 1 A nw (T ws) from ho.rd)
  have HR := Lib.hid (HX.out.keep hb)
  have HB1 := Lib.hid (below_next (below_alloc w _) hb)
  clear hws hnw hwt hlw ho hb HX
  obtain ⟨bW, oW, rfl, hbW, hcW⟩ := HRW.out.2 (by omega)
  have HCW := Lib.hid hcW
  clear hcW
  by_cases h20 : (20 : Int) < (l.length : Int)
  · have HNO := Lib.hid (show NoA l from fun o a b n hy he => by have := asm_len hy; rw [he] at this; omega)
    have R5 := HR.out.cell
    have F5 := HR.out.free
    go_wp2
    refine bodyPost_ret (v := .tuple #[insV 0 0 0 0, .bool false]) (by simp [results, Tryd.results9, go_sem, R5]) rfl ?_
    exact ⟨0, 0, 0, 0, false, rfl, ⟨⟨rfl, rfl, rfl, rfl⟩, HNO.out⟩, (((HB1.out.setCell (Nat.le_refl _) _).setCell (Nat.le_refl _) _).setCell (Nat.le_refl _) _).setCell (Nat.le_refl _) _⟩
  go_wp2
  go_loopw [5, 6, 7, 8, 9, 10, 11] (fun i _ _ _ _ _ _ wr => ∃ m : Nat, m ≤ 10 ∧ i = .int .i64 m ∧ Hid (NoB l m) ∧ Hid (Below w1.heap.size w1 wr)) (fun i _ _ _ _ _ _ _ => 10 - (intOf i).toNat)
  case atStart => exact ⟨0, by omega, rfl, Lib.hid fun o a b n hy ho => by have := (insB_bd hy).1.1; omega, Lib.hid (Below.refl _ _)⟩
  case round =>
    obtain ⟨m, hm, rfl, HNB, HB⟩ := hrel
    by_cases hlt : m < 10
    · have h1 : (m : Int) < 10 := by omega
      obtain ⟨o, ho⟩ : ∃ o : Int, o = (m : Int) := ⟨_, rfl⟩
      obtain ⟨ua, hua⟩ : ∃ u, u = uA o := ⟨_, rfl⟩
      obtain ⟨ub, hub⟩ : ∃ u, u = uB o := ⟨_, rfl⟩
      obtain ⟨uz, huz⟩ : ∃ u, u = uZ o := ⟨_, rfl⟩
      have HX6 := Lib.hid (show Xs w1 (wr.alloc (.cells #[.int .i64 (m : Int), .int .i64 0, .int .i64 0, .int .i64 0] 26)) wr.heap.size o 0 0 0 by rw [ho]; exact ⟨below_next HB.out (below_alloc _ _), Box.new _ _ _, HB.out.size⟩)
      have HU : Hid (∀ w, Calls Tryd.prog 25 #[.int .i64 (m : Int)] w fun e w' => e = .returned (.tuple #[.bool ua, .bool ub, .bool uz, .int .i64 (uN o)]) ∧ w = w') := Lib.hid fun w => by rw [hua, hub, huz, ho]; exact l3Uses_any _ w
      have HUA := Lib.hid hua
      have HUB := Lib.hid hub
      have HUZ := Lib.hid huz
      have HOM := Lib.hid ho
      clear hua hub huz ho
      go_wp2_with fail
      refine (HU.out _).mono ?_
      rintro e w3 ⟨rfl, rfl⟩
      go_upto_region 10 with (fail)
      obtain ⟨w4, hw4⟩ : ∃ w4, w4 = wr.alloc (.cells #[.int .i64 (m : Int), .int .i64 0, .int .i64 0, .int .i64 0] 26) := ⟨_, rfl⟩
      obtain ⟨g6, hg6⟩ : ∃ g, g = wr.heap.size := ⟨_, rfl⟩
      rw [← hw4, ← hg6] at HX6
      rw [← hw4, ← hg6]
      clear hw4 hg6 HU
      obtain ⟨c1, hc1⟩ : ∃ x, x = (ua && decide (1 < nw)) := ⟨_, rfl⟩
      obtain ⟨x1, hx1⟩ : ∃ x, x = sfl ua sreg ws 1 := ⟨_, rfl⟩
      obtain ⟨k1, hk1⟩ : ∃ x, x = skp ua ws 1 := ⟨_, rfl⟩
      have HC1 := Lib.hid hc1
      have HXE1 := Lib.hid hx1
      have HKE1 := Lib.hid hk1
      have hkp1 : 1 ≤ k1 := by rw [hk1]; unfold skp; split <;> omega
      clear hc1 hx1 hk1
      go_cut [37] from 31 to 36 (fun t wx => t = .bool c1 ∧ w4 = wx)
      case first =>
        cases ua
        · obtain rfl : c1 = false := by rw [HC1.out]; rfl
          go_wp2
          go_meet
          exact ⟨rfl, rfl⟩
        · by_cases hk : 1 < nw
          · have hki : 1 < (nw : Int) := by omega
            obtain rfl : c1 = true := by rw [HC1.out]; simp [hk]
            go_wp2
            go_meet
            exact ⟨rfl, rfl⟩
          · have hki : ¬ 1 < (nw : Int) := by omega
            obtain rfl : c1 = false := by rw [HC1.out]; simp [hk]
            go_wp2
            go_meet
            exact ⟨rfl, rfl⟩
      case rest =>
      obtain ⟨rfl, rfl⟩ := hcut
      go_upto_if 37 with (fail)
      go_cut [11] from 38 to 45 (fun t wx => t = .int .i64 (k1 : Int) ∧ Hid (Xs w1 wx g6 o x1 0 0))
      case first =>
        cases c1
        · have hf : (ua && decide (1 < ws.length)) = false := by rw [← HNW.out]; exact HC1.out.symm
          obtain rfl : x1 = 0 := by rw [HXE1.out]; unfold sfl; rw [hf]; rfl
          obtain rfl : k1 = 1 := by rw [HKE1.out]; unfold skp; rw [hf]; rfl
          clear hf
          go_wp2
          go_meet
          exact ⟨rfl, HX6⟩
        · have hf : (ua && decide (1 < ws.length)) = true := by rw [← HNW.out]; exact HC1.out.symm
          have hk : 1 < nw := by rw [HNW.out]; exact of_decide_eq_true (Bool.and_eq_true_iff.1 hf).2
          obtain ⟨u, hu⟩ : ∃ u, ws[1]? = some u := ⟨ws[1]'(by rw [← HNW.out]; exact hk), List.getElem?_eq_getElem _⟩
          have hud : ws.getD 1 [] = u := by rw [List.getD_eq_getElem?_getD, hu]; rfl
          have hxu : x1 = sreg u := by rw [HXE1.out]; unfold sfl; rw [hf, hud]; rfl
          obtain rfl : k1 = 1 + 1 := by rw [HKE1.out]; unfold skp; rw [hf]; rfl
          have HXU := Lib.hid hxu
          have hlu : u.length ≤ 1048576 := by have := HLW.out u (List.mem_of_getElem? hu); omega
          have hcw : w4.cell? ⟨bW, oW + 1, none⟩ = some (.string ⟨u.toArray⟩) := kcellP HX6.out.bel hbW (HCW.out 1 _ (T_get hu))
          have hki : 1 < (nw : Int) := by omega
          have C6 := HX6.out.box.cell
          clear hf hxu hud hu
          go_wp2_with fail
          refine (l3Register_any u _ hlu).mono ?_
          rintro e w5 ⟨rfl, hb5⟩
          rw [← HXU.out]
          have HXX := Lib.hid (HX6.out.step hb5)
          clear hb5 C6 hcw
          have C6 := HXX.out.box.cell
          have F6 := HXX.out.box.free
          go_wp2
          go_meet
          exact ⟨by first | rfl | go_num, Lib.hid (HXX.out.put1 _)⟩
      case rest =>
      obtain ⟨rfl, HX7⟩ := hcut
      clear HX6
      obtain ⟨w5, hw5⟩ : ∃ w5, w5 = wc := ⟨_, rfl⟩
      rw [← hw5]
      rw [← hw5] at HX7
      clear hw5
      go_upto_region 13 with (fail)
      obtain ⟨c2, hc2⟩ : ∃ x, x = (ub && decide (k1 < nw)) := ⟨_, rfl⟩
      obtain ⟨x2, hx2⟩ : ∃ x, x = sfl ub sreg ws k1 := ⟨_, rfl⟩
      obtain ⟨k2, hk2⟩ : ∃ x, x = skp ub ws k1 := ⟨_, rfl⟩
      have HC2 := Lib.hid hc2
      have HXE2 := Lib.hid hx2
      have HKE2 := Lib.hid hk2
      have hkp2 : 1 ≤ k2 := by rw [hk2]; unfold skp; split <;> omega
      clear hc2 hx2 hk2
      go_cut [52] from 46 to 51 (fun t wx => t = .bool c2 ∧ w5 = wx)
      case first =>
        cases ub
        · obtain rfl : c2 = false := by rw [HC2.out]; rfl
          go_wp2
          go_meet
          exact ⟨rfl, rfl⟩
        · by_cases hk : k1 < nw
          · have hki : (k1 : Int) < (nw : Int) := by omega
            obtain rfl : c2 = true := by rw [HC2.out]; simp [hk]
            go_wp2
            go_meet
            exact ⟨rfl, rfl⟩
          · have hki : ¬ (k1 : Int) < (nw : Int) := by omega
            obtain rfl : c2 = false := by rw [HC2.out]; simp [hk]
            go_wp2
            go_meet
            exact ⟨rfl, rfl⟩
      case rest =>
      obtain ⟨rfl, rfl⟩ := hcut
      go_upto_if 52 with (fail)
      go_cut [11] from 53 to 60 (fun t wx => t = .int .i64 (k2 : Int) ∧ Hid (Xs w1 wx g6 o x1 x2 0))
      case first =>
        cases c2
        · have hf : (ub && decide (k1 < ws.length)) = false := by rw [← HNW.out]; exact HC2.out.symm
          obtain rfl : x2 = 0 := by rw [HXE2.out]; unfold sfl; rw [hf]; rfl
          obtain rfl : k2 = k1 := by rw [HKE2.out]; unfold skp; rw [hf]; rfl
          clear hf
          go_wp2
          go_meet
          exact ⟨rfl, HX7⟩
        · have hf : (ub && decide (k1 < ws.length)) = true := by rw [← HNW.out]; exact HC2.out.symm
          have hk : k1 < nw := by rw [HNW.out]; exact of_decide_eq_true (Bool.and_eq_true_iff.1 hf).2
          obtain ⟨u, hu⟩ : ∃ u, ws[k1]? = some u := ⟨ws[k1]'(by rw [← HNW.out]; exact hk), List.getElem?_eq_getElem _⟩
          have hud : ws.getD k1 [] = u := by rw [List.getD_eq_getElem?_getD, hu]; rfl
          have hxu : x2 = sreg u := by rw [HXE2.out]; unfold sfl; rw [hf, hud]; rfl
          obtain rfl : k2 = k1 + 1 := by rw [HKE2.out]; unfold skp; rw [hf]; rfl
          have HXU := Lib.hid hxu
          have hlu : u.length ≤ 1048576 := by have := HLW.out u (List.mem_of_getElem? hu); omega
          have hcw : w5.cell? ⟨bW, oW + k1, none⟩ = some (.string ⟨u.toArray⟩) := kcellP HX7.out.bel hbW (HCW.out k1 _ (T_get hu))
          have hki : (k1 : Int) < (nw : Int) := by omega
          have C6 := HX7.out.box.cell
          clear hf hxu hud hu
          go_wp2_with fail
          refine (l3Register_any u _ hlu).mono ?_
          rintro e w5 ⟨rfl, hb5⟩
          rw [← HXU.out]
          have HXX := Lib.hid (HX7.out.step hb5)
          clear hb5 C6 hcw
          have C6 := HXX.out.box.cell
          have F6 := HXX.out.box.free
          go_wp2
          go_meet
          exact ⟨by first | rfl | go_num, Lib.hid (HXX.out.put2 _)⟩
      case rest =>
      obtain ⟨rfl, HX8⟩ := hcut
      clear HX7
      obtain ⟨w6, hw6⟩ : ∃ w6, w6 = wc := ⟨_, rfl⟩
      rw [← hw6]
      rw [← hw6] at HX8
      clear hw6
      go_upto_region 16 with (fail)
      obtain ⟨c3, hc3⟩ : ∃ x, x = (uz && decide (k2 < nw)) := ⟨_, rfl⟩
      obtain ⟨x3, hx3⟩ : ∃ x, x = sfl uz parN ws k2 := ⟨_, rfl⟩
      have HC3 := Lib.hid hc3
      have HXE3 := Lib.hid hx3
      clear hc3 hx3
      go_cut [67] from 61 to 66 (fun t wx => t = .bool c3 ∧ w6 = wx)
      case first =>
        cases uz
        · obtain rfl : c3 = false := by rw [HC3.out]; rfl
          go_wp2
          go_meet
          exact ⟨rfl, rfl⟩
        · by_cases hk : k2 < nw
          · have hki : (k2 : Int) < (nw : Int) := by omega
            obtain rfl : c3 = true := by rw [HC3.out]; simp [hk]
            go_wp2
            go_meet
            exact ⟨rfl, rfl⟩
          · have hki : ¬ (k2 : Int) < (nw : Int) := by omega
            obtain rfl : c3 = false := by rw [HC3.out]; simp [hk]
            go_wp2
            go_meet
            exact ⟨rfl, rfl⟩
      case rest =>
      obtain ⟨rfl, rfl⟩ := hcut
      go_upto_if 67 with (fail)
      go_cut [11] from 68 to 76 (fun t wx => t = .int .i64 (k2 : Int) ∧ Hid (Xs w1 wx g6 o x1 x2 x3))
      case first =>
        cases c3
        · have hf : (uz && decide (k2 < ws.length)) = false := by rw [← HNW.out]; exact HC3.out.symm
          obtain rfl : x3 = 0 := by rw [HXE3.out]; unfold sfl; rw [hf]; rfl
          clear hf
          go_wp2
          go_meet
          exact ⟨rfl, HX8⟩
        · have hf : (uz && decide (k2 < ws.length)) = true := by rw [← HNW.out]; exact HC3.out.symm
          have hk : k2 < nw := by rw [HNW.out]; exact of_decide_eq_true (Bool.and_eq_true_iff.1 hf).2
          obtain ⟨u, hu⟩ : ∃ u, ws[k2]? = some u := ⟨ws[k2]'(by rw [← HNW.out]; exact hk), List.getElem?_eq_getElem _⟩
          have hud : ws.getD k2 [] = u := by rw [List.getD_eq_getElem?_getD, hu]; rfl
          have hxu : x3 = parN u := by rw [HXE3.out]; unfold sfl; rw [hf, hud]; rfl
          have HXU := Lib.hid hxu
          have hlu : u.length ≤ 4611686018427387904 := by have := HLW.out u (List.mem_of_getElem? hu); omega
          have hcw : w6.cell? ⟨bW, oW + k2, none⟩ = some (.string ⟨u.toArray⟩) := kcellP HX8.out.bel hbW (HCW.out k2 _ (T_get hu))
          have hki : (k2 : Int) < (nw : Int) := by omega
          have C6 := HX8.out.box.cell
          clear hf hxu hud hu
          go_wp2_with fail
          refine (l1Read_any u _ hlu).mono ?_
          rintro e w5 ⟨rfl, hb5⟩
          rw [← HXU.out]
          have HXX := Lib.hid (HX8.out.step hb5)
          clear hb5 C6 hcw
          have C6 := HXX.out.box.cell
          have F6 := HXX.out.box.free
          go_wp2
          go_meet
          exact ⟨rfl, Lib.hid (HXX.out.put3 _)⟩
      case rest =>
      obtain ⟨rfl, HX9⟩ := hcut
      clear HX8
      obtain ⟨nm, hnm⟩ : ∃ nm, opN[m]? = some nm := ⟨opN[m]'hlt, List.getElem?_eq_getElem hlt⟩
      obtain ⟨e1, he1⟩ : ∃ e, e = (w0 == nm) := ⟨_, rfl⟩
      obtain ⟨g, hg⟩ : ∃ g, g = insB o x1 x2 x3 := ⟨_, rfl⟩
      obtain ⟨e2, he2⟩ : ∃ e, e = (asmL o x1 x2 x3 == l) := ⟨_, rfl⟩
      obtain ⟨f, hf⟩ : ∃ f, f = (e1 && (g && e2)) := ⟨_, rfl⟩
      have HNM := Lib.hid hnm
      have HE1 := Lib.hid he1.symm
      have HG := Lib.hid hg.symm
      have HE2 := Lib.hid he2.symm
      have HFF := Lib.hid hf
      clear hnm he1 hg he2 hf
      go_upto_region 18 with (fail)
      obtain ⟨w7, hw7⟩ : ∃ w7, w7 = wc := ⟨_, rfl⟩
      rw [← hw7]
      rw [← hw7] at HX9
      clear hw7
      have hnw0 : 0 < nw := by omega
      have hnw3 : (0 : Int) < (nw : Int) := by omega
      have hm0 : (0 : Int) ≤ (m : Int) := by omega
      have dc0 : w7.cell? ⟨bW, oW, none⟩ = some (.string ⟨w0.toArray⟩) := kcellP HX9.out.bel hbW (by have := HCW.out 0 _ (T_get (show ws[0]? = some w0 by rw [HWT.out]; rfl)); exact this)
      have cc0 : w7.drew.cell? ⟨bW, oW, none⟩ = some (.string ⟨w0.toArray⟩) := dc0
      have dc1 : w7.cell? ⟨g6, 0, none⟩ = some (.int .i64 o) := HX9.out.box.cell 0
      have cc1 : w7.drew.cell? ⟨g6, 0, none⟩ = some (.int .i64 o) := dc1
      have dc2 : w7.cell? ⟨g6, 1, none⟩ = some (.int .i64 x1) := HX9.out.box.cell 1
      have cc2 : w7.drew.cell? ⟨g6, 1, none⟩ = some (.int .i64 x1) := dc2
      have dc3 : w7.cell? ⟨g6, 2, none⟩ = some (.int .i64 x2) := HX9.out.box.cell 2
      have cc3 : w7.drew.cell? ⟨g6, 2, none⟩ = some (.int .i64 x2) := dc3
      have dc4 : w7.cell? ⟨g6, 3, none⟩ = some (.int .i64 x3) := HX9.out.box.cell 3
      have cc4 : w7.drew.cell? ⟨g6, 3, none⟩ = some (.int .i64 x3) := dc4
      go_cut [94] from 77 to 93 (fun t wx => t = .bool f ∧ Hid (Xs w1 wx g6 o x1 x2 x3))
      case first =>
        cases e1
        · have hb1 : (w0 == nm) = false := HE1.out
          obtain rfl : f = false := by rw [HFF.out]; rfl
          (first | go_region_law (first
          | (refine wanted_no (by rfl) ?_)
          | (go_simp; go_at_call 28; refine (l3Names_m HNM.out _).mono ?_; rintro e v5 ⟨rfl, hcn, hb5⟩; have hcn2 : v5.cell? ⟨w7.heap.size, m, none⟩ = some (.string ⟨nm.toArray⟩) := hcn; clear hcn; have HXD := Lib.hid (show Xs w1 w7.drew g6 o x1 x2 x3 from HX9.out.step (Below.drew (Below.refl _ _))); have HXA := Lib.hid (HXD.out.step hb5); have z0 : v5.cell? ⟨bW, oW, none⟩ = some (.string ⟨w0.toArray⟩) := kcellP hb5 (Nat.lt_of_lt_of_le hbW HXD.out.bel.size) cc0; have z1 : v5.cell? ⟨g6, 0, none⟩ = some (.int .i64 o) := HXA.out.box.cell 0; have z2 : v5.cell? ⟨g6, 1, none⟩ = some (.int .i64 x1) := HXA.out.box.cell 1; have z3 : v5.cell? ⟨g6, 2, none⟩ = some (.int .i64 x2) := HXA.out.box.cell 2; have z4 : v5.cell? ⟨g6, 3, none⟩ = some (.int .i64 x3) := HXA.out.box.cell 3; (try clear q0 q1 q2 q3 q4); have q0 := z0; have q1 := z1; have q2 := z2; have q3 := z3; have q4 := z4; clear z0 z1 z2 z3 z4)
          | (go_simp; go_at_call 21; refine (l3One_eq HG.out _).mono ?_; rintro e v6 ⟨rfl, hb6⟩; have HXB := Lib.hid (HXA.out.step hb6); have z0 : v6.cell? ⟨bW, oW, none⟩ = some (.string ⟨w0.toArray⟩) := kcellP hb6 (Nat.lt_of_lt_of_le hbW HXA.out.bel.size) q0; have z1 : v6.cell? ⟨g6, 0, none⟩ = some (.int .i64 o) := HXB.out.box.cell 0; have z2 : v6.cell? ⟨g6, 1, none⟩ = some (.int .i64 x1) := HXB.out.box.cell 1; have z3 : v6.cell? ⟨g6, 2, none⟩ = some (.int .i64 x2) := HXB.out.box.cell 2; have z4 : v6.cell? ⟨g6, 3, none⟩ = some (.int .i64 x3) := HXB.out.box.cell 3; (try clear q0 q1 q2 q3 q4); have q0 := z0; have q1 := z1; have q2 := z2; have q3 := z3; have q4 := z4; clear z0 z1 z2 z3 z4)
          | (go_simp; go_at_call 22; refine (l3Text_ins HG.out _).mono ?_; rintro e v7 ⟨rfl, hb7⟩; have HXC := Lib.hid (HXB.out.step hb7); have z0 : v7.cell? ⟨bW, oW, none⟩ = some (.string ⟨w0.toArray⟩) := kcellP hb7 (Nat.lt_of_lt_of_le hbW HXB.out.bel.size) q0; have z1 : v7.cell? ⟨g6, 0, none⟩ = some (.int .i64 o) := HXC.out.box.cell 0; have z2 : v7.cell? ⟨g6, 1, none⟩ = some (.int .i64 x1) := HXC.out.box.cell 1; have z3 : v7.cell? ⟨g6, 2, none⟩ = some (.int .i64 x2) := HXC.out.box.cell 2; have z4 : v7.cell? ⟨g6, 3, none⟩ = some (.int .i64 x3) := HXC.out.box.cell 3; (try clear q0 q1 q2 q3 q4); have q0 := z0; have q1 := z1; have q2 := z2; have q3 := z3; have q4 := z4; clear z0 z1 z2 z3 z4)) | fail)
          all_goals
            go_wp2_with fail
            go_meet
            exact ⟨rfl, HXA⟩
        · have hb1 : (w0 == nm) = true := HE1.out
          cases g
          · obtain rfl : f = false := by rw [HFF.out]; rfl
            (first | go_region_law (first
          | (refine wanted_no (by rfl) ?_)
          | (go_simp; go_at_call 28; refine (l3Names_m HNM.out _).mono ?_; rintro e v5 ⟨rfl, hcn, hb5⟩; have hcn2 : v5.cell? ⟨w7.heap.size, m, none⟩ = some (.string ⟨nm.toArray⟩) := hcn; clear hcn; have HXD := Lib.hid (show Xs w1 w7.drew g6 o x1 x2 x3 from HX9.out.step (Below.drew (Below.refl _ _))); have HXA := Lib.hid (HXD.out.step hb5); have z0 : v5.cell? ⟨bW, oW, none⟩ = some (.string ⟨w0.toArray⟩) := kcellP hb5 (Nat.lt_of_lt_of_le hbW HXD.out.bel.size) cc0; have z1 : v5.cell? ⟨g6, 0, none⟩ = some (.int .i64 o) := HXA.out.box.cell 0; have z2 : v5.cell? ⟨g6, 1, none⟩ = some (.int .i64 x1) := HXA.out.box.cell 1; have z3 : v5.cell? ⟨g6, 2, none⟩ = some (.int .i64 x2) := HXA.out.box.cell 2; have z4 : v5.cell? ⟨g6, 3, none⟩ = some (.int .i64 x3) := HXA.out.box.cell 3; (try clear q0 q1 q2 q3 q4); have q0 := z0; have q1 := z1; have q2 := z2; have q3 := z3; have q4 := z4; clear z0 z1 z2 z3 z4)
          | (go_simp; go_at_call 21; refine (l3One_eq HG.out _).mono ?_; rintro e v6 ⟨rfl, hb6⟩; have HXB := Lib.hid (HXA.out.step hb6); have z0 : v6.cell? ⟨bW, oW, none⟩ = some (.string ⟨w0.toArray⟩) := kcellP hb6 (Nat.lt_of_lt_of_le hbW HXA.out.bel.size) q0; have z1 : v6.cell? ⟨g6, 0, none⟩ = some (.int .i64 o) := HXB.out.box.cell 0; have z2 : v6.cell? ⟨g6, 1, none⟩ = some (.int .i64 x1) := HXB.out.box.cell 1; have z3 : v6.cell? ⟨g6, 2, none⟩ = some (.int .i64 x2) := HXB.out.box.cell 2; have z4 : v6.cell? ⟨g6, 3, none⟩ = some (.int .i64 x3) := HXB.out.box.cell 3; (try clear q0 q1 q2 q3 q4); have q0 := z0; have q1 := z1; have q2 := z2; have q3 := z3; have q4 := z4; clear z0 z1 z2 z3 z4)
          | (go_simp; go_at_call 22; refine (l3Text_ins HG.out _).mono ?_; rintro e v7 ⟨rfl, hb7⟩; have HXC := Lib.hid (HXB.out.step hb7); have z0 : v7.cell? ⟨bW, oW, none⟩ = some (.string ⟨w0.toArray⟩) := kcellP hb7 (Nat.lt_of_lt_of_le hbW HXB.out.bel.size) q0; have z1 : v7.cell? ⟨g6, 0, none⟩ = some (.int .i64 o) := HXC.out.box.cell 0; have z2 : v7.cell? ⟨g6, 1, none⟩ = some (.int .i64 x1) := HXC.out.box.cell 1; have z3 : v7.cell? ⟨g6, 2, none⟩ = some (.int .i64 x2) := HXC.out.box.cell 2; have z4 : v7.cell? ⟨g6, 3, none⟩ = some (.int .i64 x3) := HXC.out.box.cell 3; (try clear q0 q1 q2 q3 q4); have q0 := z0; have q1 := z1; have q2 := z2; have q3 := z3; have q4 := z4; clear z0 z1 z2 z3 z4)) | fail)
            all_goals
              go_wp2_with fail
              go_meet
              exact ⟨rfl, HXB⟩
          · cases e2
            · have hb2 : (asmL o x1 x2 x3 == l) = false := HE2.out
              obtain rfl : f = false := by rw [HFF.out]; rfl
              (first | go_region_law (first
          | (refine wanted_no (by rfl) ?_)
          | (go_simp; go_at_call 28; refine (l3Names_m HNM.out _).mono ?_; rintro e v5 ⟨rfl, hcn, hb5⟩; have hcn2 : v5.cell? ⟨w7.heap.size, m, none⟩ = some (.string ⟨nm.toArray⟩) := hcn; clear hcn; have HXD := Lib.hid (show Xs w1 w7.drew g6 o x1 x2 x3 from HX9.out.step (Below.drew (Below.refl _ _))); have HXA := Lib.hid (HXD.out.step hb5); have z0 : v5.cell? ⟨bW, oW, none⟩ = some (.string ⟨w0.toArray⟩) := kcellP hb5 (Nat.lt_of_lt_of_le hbW HXD.out.bel.size) cc0; have z1 : v5.cell? ⟨g6, 0, none⟩ = some (.int .i64 o) := HXA.out.box.cell 0; have z2 : v5.cell? ⟨g6, 1, none⟩ = some (.int .i64 x1) := HXA.out.box.cell 1; have z3 : v5.cell? ⟨g6, 2, none⟩ = some (.int .i64 x2) := HXA.out.box.cell 2; have z4 : v5.cell? ⟨g6, 3, none⟩ = some (.int .i64 x3) := HXA.out.box.cell 3; (try clear q0 q1 q2 q3 q4); have q0 := z0; have q1 := z1; have q2 := z2; have q3 := z3; have q4 := z4; clear z0 z1 z2 z3 z4)
          | (go_simp; go_at_call 21; refine (l3One_eq HG.out _).mono ?_; rintro e v6 ⟨rfl, hb6⟩; have HXB := Lib.hid (HXA.out.step hb6); have z0 : v6.cell? ⟨bW, oW, none⟩ = some (.string ⟨w0.toArray⟩) := kcellP hb6 (Nat.lt_of_lt_of_le hbW HXA.out.bel.size) q0; have z1 : v6.cell? ⟨g6, 0, none⟩ = some (.int .i64 o) := HXB.out.box.cell 0; have z2 : v6.cell? ⟨g6, 1, none⟩ = some (.int .i64 x1) := HXB.out.box.cell 1; have z3 : v6.cell? ⟨g6, 2, none⟩ = some (.int .i64 x2) := HXB.out.box.cell 2; have z4 : v6.cell? ⟨g6, 3, none⟩ = some (.int .i64 x3) := HXB.out.box.cell 3; (try clear q0 q1 q2 q3 q4); have q0 := z0; have q1 := z1; have q2 := z2; have q3 := z3; have q4 := z4; clear z0 z1 z2 z3 z4)
          | (go_simp; go_at_call 22; refine (l3Text_ins HG.out _).mono ?_; rintro e v7 ⟨rfl, hb7⟩; have HXC := Lib.hid (HXB.out.step hb7); have z0 : v7.cell? ⟨bW, oW, none⟩ = some (.string ⟨w0.toArray⟩) := kcellP hb7 (Nat.lt_of_lt_of_le hbW HXB.out.bel.size) q0; have z1 : v7.cell? ⟨g6, 0, none⟩ = some (.int .i64 o) := HXC.out.box.cell 0; have z2 : v7.cell? ⟨g6, 1, none⟩ = some (.int .i64 x1) := HXC.out.box.cell 1; have z3 : v7.cell? ⟨g6, 2, none⟩ = some (.int .i64 x2) := HXC.out.box.cell 2; have z4 : v7.cell? ⟨g6, 3, none⟩ = some (.int .i64 x3) := HXC.out.box.cell 3; (try clear q0 q1 q2 q3 q4); have q0 := z0; have q1 := z1; have q2 := z2; have q3 := z3; have q4 := z4; clear z0 z1 z2 z3 z4)) | fail)
              all_goals
                go_wp2_with fail
                go_meet
                exact ⟨rfl, HXC⟩
            · have hb2 : (asmL o x1 x2 x3 == l) = true := HE2.out
              obtain rfl : f = true := by rw [HFF.out]; rfl
              (first | go_region_law (first
          | (refine wanted_no (by rfl) ?_)
          | (go_simp; go_at_call 28; refine (l3Names_m HNM.out _).mono ?_; rintro e v5 ⟨rfl, hcn, hb5⟩; have hcn2 : v5.cell? ⟨w7.heap.size, m, none⟩ = some (.string ⟨nm.toArray⟩) := hcn; clear hcn; have HXD := Lib.hid (show Xs w1 w7.drew g6 o x1 x2 x3 from HX9.out.step (Below.drew (Below.refl _ _))); have HXA := Lib.hid (HXD.out.step hb5); have z0 : v5.cell? ⟨bW, oW, none⟩ = some (.string ⟨w0.toArray⟩) := kcellP hb5 (Nat.lt_of_lt_of_le hbW HXD.out.bel.size) cc0; have z1 : v5.cell? ⟨g6, 0, none⟩ = some (.int .i64 o) := HXA.out.box.cell 0; have z2 : v5.cell? ⟨g6, 1, none⟩ = some (.int .i64 x1) := HXA.out.box.cell 1; have z3 : v5.cell? ⟨g6, 2, none⟩ = some (.int .i64 x2) := HXA.out.box.cell 2; have z4 : v5.cell? ⟨g6, 3, none⟩ = some (.int .i64 x3) := HXA.out.box.cell 3; (try clear q0 q1 q2 q3 q4); have q0 := z0; have q1 := z1; have q2 := z2; have q3 := z3; have q4 := z4; clear z0 z1 z2 z3 z4)
          | (go_simp; go_at_call 21; refine (l3One_eq HG.out _).mono ?_; rintro e v6 ⟨rfl, hb6⟩; have HXB := Lib.hid (HXA.out.step hb6); have z0 : v6.cell? ⟨bW, oW, none⟩ = some (.string ⟨w0.toArray⟩) := kcellP hb6 (Nat.lt_of_lt_of_le hbW HXA.out.bel.size) q0; have z1 : v6.cell? ⟨g6, 0, none⟩ = some (.int .i64 o) := HXB.out.box.cell 0; have z2 : v6.cell? ⟨g6, 1, none⟩ = some (.int .i64 x1) := HXB.out.box.cell 1; have z3 : v6.cell? ⟨g6, 2, none⟩ = some (.int .i64 x2) := HXB.out.box.cell 2; have z4 : v6.cell? ⟨g6, 3, none⟩ = some (.int .i64 x3) := HXB.out.box.cell 3; (try clear q0 q1 q2 q3 q4); have q0 := z0; have q1 := z1; have q2 := z2; have q3 := z3; have q4 := z4; clear z0 z1 z2 z3 z4)
          | (go_simp; go_at_call 22; refine (l3Text_ins HG.out _).mono ?_; rintro e v7 ⟨rfl, hb7⟩; have HXC := Lib.hid (HXB.out.step hb7); have z0 : v7.cell? ⟨bW, oW, none⟩ = some (.string ⟨w0.toArray⟩) := kcellP hb7 (Nat.lt_of_lt_of_le hbW HXB.out.bel.size) q0; have z1 : v7.cell? ⟨g6, 0, none⟩ = some (.int .i64 o) := HXC.out.box.cell 0; have z2 : v7.cell? ⟨g6, 1, none⟩ = some (.int .i64 x1) := HXC.out.box.cell 1; have z3 : v7.cell? ⟨g6, 2, none⟩ = some (.int .i64 x2) := HXC.out.box.cell 2; have z4 : v7.cell? ⟨g6, 3, none⟩ = some (.int .i64 x3) := HXC.out.box.cell 3; (try clear q0 q1 q2 q3 q4); have q0 := z0; have q1 := z1; have q2 := z2; have q3 := z3; have q4 := z4; clear z0 z1 z2 z3 z4)) | fail)
              all_goals
                go_wp2_with fail
                go_meet
                exact ⟨rfl, HXC⟩
      case rest =>
      obtain ⟨rfl, HXZ⟩ := hcut
      clear dc0 cc0 dc1 cc1 dc2 cc2 dc3 cc3 dc4 cc4
      cases f
      · have HNB2 := Lib.hid (HNB.out.next fun a b n hy he => by
          rw [← HOM.out] at hy he
          obtain ⟨s0, s1, s2, s3⟩ := asm_spec hy (ws := ws) (by rw [he]; exact HWS.out.symm)
          have d1 : x1 = a := by rw [HXE1.out, HUA.out]; exact s1
          have d2 : x2 = b := by rw [HXE2.out, HUB.out, HKE1.out, HUA.out]; exact s2
          have d3 : x3 = n := by rw [HXE3.out, HUZ.out, HKE2.out, HUB.out, HKE1.out, HUA.out]; exact s3
          have d4 : w0 = nm := by
            rw [HWT.out, HOM.out, Int.toNat_natCast, HNM.out] at s0
            exact s0
          have k1' : e1 = true := by rw [← HE1.out, d4]; simp
          have k2' : g = true := by rw [← HG.out, d1, d2, d3]; exact hy
          have k3' : e2 = true := by rw [← HE2.out, d1, d2, d3, he]; simp
          have := HFF.out
          rw [k1', k2', k3'] at this
          cases this)
        go_wp2
        go_roundw
        case rel => exact ⟨m + 1, by omega, by go_num, HNB2, Lib.hid HXZ.out.bel⟩
        case measure => simp [intOf]; omega
      · have hf3 : e1 = true ∧ g = true ∧ e2 = true := by
          have := HFF.out.symm
          simpa using this
        have HPA := Lib.hid (show PA l o x1 x2 x3 true from ⟨HG.out.trans hf3.2.1, by
          have := HE2.out.trans hf3.2.2
          simpa using this⟩)
        have R5 := (HR.out.keep HXZ.out.bel).cell
        have F5 := (HR.out.keep HXZ.out.bel).free
        have C6 := HXZ.out.box.cell
        have HBB := Lib.hid (below_next HB1.out HXZ.out.bel)
        clear hf3
        go_wp2
        refine bodyPost_ret (v := .tuple #[insV o x1 x2 x3, .bool true]) (by simp [results, Tryd.results9, go_sem, R5]) rfl ?_
        exact ⟨o, x1, x2, x3, true, rfl, HPA.out, (((HBB.out.setCell (Nat.le_refl _) _).setCell (Nat.le_refl _) _).setCell (Nat.le_refl _) _).setCell (Nat.le_refl _) _⟩
    · obtain rfl : m = 10 := by omega
      have HNO := Lib.hid HNB.out.all
      have R5 := (HR.out.keep HB.out).cell
      have F5 := (HR.out.keep HB.out).free
      have HBB := Lib.hid (below_next HB1.out HB.out)
      go_wp2
      refine bodyPost_ret (v := .tuple #[insV 0 0 0 0, .bool false]) (by simp [results, Tryd.results9, go_sem, R5]) rfl ?_
      exact ⟨0, 0, 0, 0, false, rfl, ⟨⟨rfl, rfl, rfl, rfl⟩, HNO.out⟩, (((HBB.out.setCell (Nat.le_refl _) _).setCell (Nat.le_refl _) _).setCell (Nat.le_refl _) _).setCell (Nat.le_refl _) _⟩
end Go.Proofs.YtlahpnihnpmgoaaDoor

