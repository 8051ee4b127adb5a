/- The walk of the law FnStrings through its contracts. FnStrings returns true for every code (the card of it, tied to the program). No conditions. -/
import Derived.Test.YtppnmpkefchknaaDoorLaid5
import Derived.Test.YtppnmpkefchknaaDoorStp
import Derived.Test.YtppnmpkefchknaaDoorDt2
import Derived.Test.YtppnmpkefchknaaDoorVi
import Derived.Deep.CutBlock
namespace Go.Proofs.YtppnmpkefchknaaDoor
open Go.RowKit
set_option linter.unusedVariables false
set_option linter.unusedSimpArgs false

theorem selB_mk (b : Bool) (l : List UInt8) : ∃ t : List UInt8, selB b l = ⟨t.toArray⟩ ∧ (b = true → t = l) ∧ (b = false → t = []) := by
  cases b
  · exact ⟨[], rfl, (fun h => (by cases h)), fun _ => rfl⟩
  · exact ⟨l, rfl, fun _ => rfl, fun h => by cases h⟩
theorem selB_len {b : Bool} {l t : List UInt8} (h : selB b l = ⟨t.toArray⟩) : t.length ≤ l.length := by
  have h3 : t.length = (selB b l).size := by rw [h, mk_size]
  rw [h3]
  cases b
  · exact Nat.zero_le _
  · exact Nat.le_of_eq (mk_size l)
theorem itoa_le {n : Int} (h0 : -1000000 ≤ n) (h1 : n ≤ 1000000) : (Lib.itoa n).length ≤ 1000010 := by
  unfold Lib.itoa
  split
  · have := dec_len n.natAbs
    simp only [List.length_cons]
    omega
  · have := dec_len n.toNat
    omega

set_option maxRecDepth 100000 in
set_option maxHeartbeats 8000000 in
theorem walk_FnStrings (A : Option Addr) (n ca : Nat) (w : World) (hb : Bys w A n) (hm : n ≤ maxLen) (hL : laidMetH Tryd.prog lst5 w) (hsh : w.ShapedOpen Tryd.prog) :
    Calls Tryd.prog 3 #[.slice A n ca] w fun e w' => e = .returned (.bool true) ∧ Below w.heap.size w w' := by
  have HT := Lib.hid (tab_of5 hL)
  have HE := Lib.hid (err_of5 hL)
  have HM := Lib.hid (Mx.of hsh)
  clear hL hsh
  unfold maxLen at hm
  by_cases hn : n ≤ 65536
  rotate_left
  · have H := Lib.hid hn
    clear hn
    go_enter Tryd.func3, Tryd.ntmps3
    go_wp2_with fail
    refine (vBig_eq A n ca _ hm true (by have := H.out; simp; omega)).mono ?_
    rintro e w1 ⟨rfl, rfl⟩
    go_wp2
    go_ret
    exact ⟨rfl, Below.refl _ _⟩
  have HC := Lib.hid hb
  have HN := Lib.hid hn
  obtain ⟨v9, hv9, hV9⟩ := vAt_ex hb hn 9 (by omega)
  obtain ⟨v10, hv10, hV10⟩ := vAt_ex hb hn 10 (by omega)
  have HV9 := Lib.hid hV9
  have HV10 := Lib.hid hV10
  clear hb hn hV9 hV10
  go_enter Tryd.func3, Tryd.ntmps3
  go_wp2_with fail
  refine (vBig_eq A n ca _ hm false (by have := HN.out; simp; omega)).mono ?_
  rintro e w1 ⟨rfl, rfl⟩
  clear hm
  go_wp2_with fail
  refine (DrawFormatInt_any A n ca _ (HC.out.code HN.out)).mono ?_
  rintro e w1 ⟨m, hm, rfl, hb1⟩
  have HB1 := Lib.hid hb1
  clear hb1
  obtain ⟨b1, hb1⟩ : ∃ b, b = inB m (-999999) 999999 := ⟨_, rfl⟩
  obtain ⟨s1, hs1, hs2, -⟩ := selB_mk b1 (Lib.itoa m)
  have hsl := selB_len hs1
  have hil := itoa_le hm.1 hm.2
  have HS1 := Lib.hid hs1
  have HS2 := Lib.hid hs2
  have HQ1 := Lib.hid hb1.symm
  clear hs1 hs2 hb1
  go_wp2_with fail
  refine (i_FormatInt_any m _ (HT.out.keep HB1.out)).mono ?_
  rw [HQ1.out, HS1.out]
  rintro e w2 ⟨rfl, hb2⟩
  have HB2 := Lib.hid (below_next HB1.out hb2)
  clear hb2 HB1
  go_wp2_with fail
  refine (s_FormatInt_any m _).mono ?_
  rw [HQ1.out, HS1.out]
  rintro e w3 ⟨rfl, hb3⟩
  have HB3 := Lib.hid (below_next HB2.out hb3)
  clear hb3 HB2
  go_wp2_with fail
  refine (DrawParseInt_any A n ca _ ((HC.out.keep HB3.out).code HN.out)).mono ?_
  rintro e w4 ⟨t, ht, rfl, hb4⟩
  have HB4 := Lib.hid (below_next HB3.out hb4)
  clear hb4 HB3
  obtain ⟨b2, hb2⟩ : ∃ b, b = parB t := ⟨_, rfl⟩
  obtain ⟨n2, hn2⟩ : ∃ b, b = parN t := ⟨_, rfl⟩
  have HQ2 := Lib.hid hb2.symm
  have HN2 := Lib.hid hn2.symm
  clear hb2 hn2
  go_wp2_with fail
  refine (i_ParseInt_any t _ (by omega) (HT.out.keep HB4.out) (HE.out.keep HB4.out)).mono ?_
  rw [HQ2.out, HN2.out]
  rintro e w5 ⟨rfl, hb5⟩
  have HB5 := Lib.hid (below_next HB4.out hb5)
  clear hb5 HB4
  go_wp2_with fail
  refine (s_ParseInt_any t _ (by omega)).mono ?_
  rw [HQ2.out, HN2.out]
  rintro e w6 ⟨rfl, hb6⟩
  have HB6 := Lib.hid (below_next HB5.out hb6)
  clear hb6 HB5
  go_wp2_with fail
  refine (DrawAppendChecksum_any A n ca _ ((HC.out.keep HB6.out).code HN.out)).mono ?_
  rintro e w7 ⟨x, hx, rfl, hb7⟩
  have HB7 := Lib.hid (below_next HB6.out hb7)
  clear hb7 HB6
  obtain ⟨b3, hb3⟩ : ∃ b, b = apOk x := ⟨_, rfl⟩
  obtain ⟨y, hy1, hy2, hy3⟩ := selB_mk b3 (sealL x)
  have HQ3 := Lib.hid hb3.symm
  have HY1 := Lib.hid hy1
  have HY2 := Lib.hid hy2
  have HY3 := Lib.hid hy3
  clear hb3 hy1 hy2 hy3
  go_wp2_with fail
  refine (i_AppendChecksum_any x _ (by omega) (HT.out.keep HB7.out) (HM.out.keep HB7.out)).mono ?_
  rw [HQ3.out, HY1.out]
  rintro e w8 ⟨rfl, hb8⟩
  have HB8 := Lib.hid (below_next HB7.out hb8)
  clear hb8 HB7
  go_wp2_with fail
  refine (s_AppendChecksum_any x _ (by omega)).mono ?_
  rw [HQ3.out, HY1.out]
  rintro e w9 ⟨rfl, hb9⟩
  have HB9 := Lib.hid (below_next HB8.out hb9)
  clear hb9 HB8
  have t1 : (n2 != n2) = false := by simp
  obtain ⟨b4, hb4⟩ : ∃ b, b = parB s1 := ⟨_, rfl⟩
  obtain ⟨n4, hn4⟩ : ∃ b, b = parN s1 := ⟨_, rfl⟩
  have HQ4 := Lib.hid hb4.symm
  have HN4 := Lib.hid hn4.symm
  have HP := Lib.hid (show b1 = true → b4 = true ∧ n4 = m from fun h => by
    have h1 := inB_iff.1 (HQ1.out.trans h)
    have h2 := par_itoa h1.1 h1.2
    rw [hb4, hn4, HS2.out h]
    exact h2)
  clear hb4 hn4
  go_wp2_with fail
  refine (i_ParseInt_any s1 _ (by omega) (HT.out.keep HB9.out) (HE.out.keep HB9.out)).mono ?_
  rw [HQ4.out, HN4.out]
  rintro e w10 ⟨rfl, hb10⟩
  have HB10 := Lib.hid (below_next HB9.out hb10)
  clear hb10 HB9
  go_upto_region 15 with (fail)
  go_cut [106] from 97 to 105 (fun t wx => t = .bool false ∧ wx = w10)
  case first =>
    clear HS1 HS2 HQ1
    cases b1
    · go_wp2
      go_meet
      exact ⟨by simp, by first | rfl | trivial⟩
    · obtain ⟨rfl, rfl⟩ := HP.out rfl
      have t2 : (n4 != n4) = false := by simp
      go_wp2
      go_meet
      exact ⟨by simp, by first | rfl | trivial⟩
  case rest =>
    obtain ⟨rfl, rfl⟩ := hcut
    cases b3
    · obtain rfl : y = [] := HY3.out rfl
      go_wp2
      go_ret
      exact ⟨by simp, HB10.out⟩
    · obtain rfl : y = sealL x := HY2.out rfl
      obtain ⟨hvk, hpre, hy0, hyl⟩ := seal_ok HQ3.out
      have HVK := Lib.hid hvk
      have HPRE := Lib.hid hpre
      obtain ⟨y, hy⟩ : ∃ y, y = sealL x := ⟨_, rfl⟩
      rw [← hy] at HVK HPRE hy0 hyl
      rw [← hy]
      have HY := Lib.hid hy.symm
      clear hy hvk hpre
      go_wp2_with fail
      refine (i_VerifyChecksum_any y _ (by omega) (HT.out.keep HB10.out) (HM.out.keep HB10.out)).mono ?_
      rw [HVK.out, HPRE.out, show selB true x = ⟨x.toArray⟩ from rfl]
      rintro e w11 ⟨rfl, hb11⟩
      have HB11 := Lib.hid (below_next HB10.out hb11)
      clear hb11 HB10
      obtain ⟨cap, w12, hcv, hb12, hc12, hf12, hs12⟩ := conv_ex w11 y
      have HB12 := Lib.hid (below_next HB11.out hb12)
      have HC12 := Lib.hid hc12
      have HF12 := Lib.hid hf12
      clear hb12 hc12 hf12
      obtain ⟨g, hg⟩ : ∃ g, g = w11.heap.size := ⟨_, rfl⟩
      have hg12 : g < w12.heap.size := by rw [hs12, ← hg]; omega
      have hgw : w.heap.size ≤ g := by rw [hg]; exact HB11.out.size
      rw [← hg] at HC12 HF12 hcv
      clear hg hs12
      go_wp2_with fail
      refine (HV9.out ca _ HB12.out).mono ?_
      rintro e w13 ⟨rfl, rfl⟩
      have hyn : (0 : Int) < (y.length : Int) := by omega
      have hym : ¬ (y.length : Int) = 0 := by omega
      go_upto_region 22 with (fail)
      obtain ⟨k, hk⟩ : ∃ k : Nat, (k : Int) = v9 % (y.length : Int) := ⟨(v9 % (y.length : Int)).toNat, by have := Int.emod_nonneg v9 hym; omega⟩
      have hk2 : k < y.length := by have := Int.emod_lt_of_pos v9 hyn; omega
      rw [← hk]
      clear hk
      obtain ⟨c, hc⟩ : ∃ c, y[k]? = some c := ⟨_, List.getElem?_eq_getElem hk2⟩
      have hck := HC12.out k c hc
      have hfk := HF12.out k hk2
      have HCK := Lib.hid hc
      have h0 : (0 : Int) ≤ (k : Int) := by omega
      have h1 : (k : Int) < (y.length : Int) := by omega
      clear hc
      obtain ⟨d, hd, hcd⟩ := xor_ne c (1 + v10 % 255) (by omega) (by omega)
      have HBAD := Lib.hid (show vcOk (y.set k d) = false by rw [← HY.out]; exact seal_bad HQ3.out (by rw [HY.out]; exact HCK.out) hcd)
      have hsl2 : (y.set k d).length ≤ 1048576 := by rw [List.length_set]; omega
      have hback : (convert 22 9 (.slice (some ⟨g, 0, none⟩) y.length cap)).run Tryd.prog (w12.setCell ⟨g, k, none⟩ (.int .u8 (d.toNat : Int))).drew = .ok (.string ⟨(y.set k d).toArray⟩) (w12.setCell ⟨g, k, none⟩ (.int .u8 (d.toNat : Int))).drew := by
        refine back_conv (fun j c' hj => ?_) (List.length_set)
        show (w12.setCell ⟨g, k, none⟩ (.int .u8 (d.toNat : Int))).cell? ⟨g, j, none⟩ = _
        by_cases e : j = k
        · subst e
          rw [List.getElem?_set_self hk2] at hj
          obtain rfl := Option.some.inj hj
          first
            | exact World.cell?_setCell_same _ hck
            | exact World.cell?_setCell_same _ _ hck
            | exact World.cell?_setCell_same _ _ _ hck
        · rw [List.getElem?_set_ne (Ne.symm e)] at hj
          have hne : (⟨g, k, none⟩ : Addr) ≠ ⟨g, j, none⟩ := fun h => e (by injection h with h1 h2; exact h2.symm)
          have h9 := HC12.out j c' hj
          first
            | (rw [World.cell?_setCell_other _ hne]; exact h9)
            | (rw [World.cell?_setCell_other _ _ hne]; exact h9)
            | (rw [World.cell?_setCell_other _ _ _ hne]; exact h9)
            | (rw [World.cell?_setCell_other _ _ _ _ hne]; exact h9)
            | (rw [World.cell?_setCell_other (h := hne)]; exact h9)
      have HB13 := Lib.hid (show Below w.heap.size w (w12.setCell ⟨g, k, none⟩ (.int .u8 (d.toNat : Int))).drew from (HB12.out.setCell hgw _).drew)
      have HNE := Lib.hid hcd
      clear hcd
      go_region_with (first
        | (go_at_call 15; refine (HV10.out ca _ (HB12.out.drew)).mono ?_; rintro e w13 ⟨rfl, rfl⟩))
      all_goals
        go_wp2_with fail
        rw [hd, hback]
        clear hd hback
        go_wp2_with fail
        refine (i_VerifyChecksum_any _ _ hsl2 (HT.out.keep HB13.out) (HM.out.keep HB13.out)).mono ?_
        rw [HBAD.out]
        rintro e w14 ⟨rfl, hb14⟩
        have HB14 := Lib.hid (below_next HB13.out hb14)
        clear hb14
        go_wp2
        go_ret
        exact ⟨by simp, HB14.out⟩
end Go.Proofs.YtppnmpkefchknaaDoor
