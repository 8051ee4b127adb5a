/- The walk of the law FnRuns through its contracts. FnRuns returns true for every code. No conditions. -/
import Derived.Test.YtppnmpkefchknaaDo
import Derived.Test.YtppnmpkefchknaaFt
import Derived.Test.YtppnmpkefchknaaVi
import Derived.Deep.CutBlock
import Derived.Deep.RegionLaw
import Derived.Test.YtppnmpkefchknaaVp
import Derived.Test.YtppnmpkefchknaaOpC
namespace Go.Proofs.Ytppnmpkefchknaa
open Go.RowKit
set_option linter.unusedVariables false
set_option linter.unusedSimpArgs false

theorem sep_code {w wx : World} {L : List Thing} {A : Option Addr} {n : Nat} (S : Sep w wx L) (hb : Bys w A n) (hn : n ≤ 65536) : Code wx wx.heap.size A n := (hb.keep S.bel).code hn

set_option maxRecDepth 100000 in
set_option maxHeartbeats 16000000 in
theorem walk_FnRuns (A : Option Addr) (n ca : Nat) (w : World) (hb : Bys w A n) (hm : n ≤ maxLen) :
    Calls Try.prog 5 #[.slice A n ca] w fun e w' => e = .returned (.bool true) ∧ Below w.heap.size w w' := by
  obtain ⟨i0, hi, hz0, hz1, hz2⟩ := info_parts Try.info3
  unfold maxLen at hm
  by_cases hn : n ≤ 65536
  rotate_left
  · have H := Lib.hid hn
    clear hn
    go_enter Try.func5, Try.ntmps5
    go_wp2_with fail
    refine (vBig_eq A n ca _ hm true (by have := H.out; simp; omega)).mono ?_
    rintro e w1 ⟨rfl, rfl⟩
    go_wp2
    go_ret
    exact ⟨rfl, Below.refl _ _⟩
  have HC := Lib.hid hb
  have HN := Lib.hid hn
  clear hb hn
  go_enter Try.func5, Try.ntmps5
  go_wp2_with fail
  refine (vBig_eq A n ca _ hm false (by have := HN.out; simp; omega)).mono ?_
  rintro e w1 ⟨rfl, rfl⟩
  clear hm
  go_wp2_with fail
  refine (DrawLongestFree_any A n ca _ (HC.out.code HN.out)).mono ?_
  rintro e w1 ⟨A1, n1, c1, xs, rfl, hn1, ho1, hb1⟩
  have hlr : xs.length = n1 := ho1.rd.len
  have hc1 := (ti_cap ho1).1
  have HS1 := Lib.hid ((Sep.start w).new hb1 ho1)
  clear hb1 ho1
  go_wp2_with fail
  refine (i_LongestFree_any A1 n1 c1 xs _ (HS1.out.rd 0 rfl) (by omega)).mono ?_
  rintro e w2 ⟨fr, m, ok, rfl, hl1, rfl⟩
  have HL1 := Lib.hid hl1
  clear hl1
  go_wp2_with fail
  refine (s_LongestFree_any A1 n1 c1 xs _ (HS1.out.rd 0 rfl) (by omega)).mono ?_
  rintro e w2 ⟨fr2, m2, ok2, rfl, hl2, rfl⟩
  obtain ⟨rfl, rfl, rfl⟩ := HL1.out.unique hl2
  clear hl2
  have hmn : m ≤ n1 := by
    rcases HL1.out with ⟨_, _, rfl, _⟩ | ⟨_, hg, _⟩
    · omega
    · have := hg.fits; omega
  have t1 : ((fr : Int) != (fr : Int)) = false := by simp
  have t2 : ((m : Int) != (m : Int)) = false := by simp
  go_upto_if 77 with (fail)
  go_cut [10, 11, 12, 13, 14, 15] from 77 to 102 (fun _ _ _ _ _ _ wx => Hid (Below w.heap.size w wx))
  case first =>
    cases ok
    · go_wp2
      go_meet
      exact Lib.hid HS1.out.bel
    · have hyes : grOk xs 1 (m : Int) = true ∧ grI xs (m : Int) = (fr : Int) := by
        rcases HL1.out with ⟨_, _, _, h⟩ | ⟨ho, hg, h⟩
        · cases h
        · exact long_yes ho hg (by simpa using h.symm)
      have hno : grOk xs 1 ((m : Int) + 1) = false := by
        rcases HL1.out with ⟨_, _, _, h⟩ | ⟨ho, hg, h⟩
        · cases h
        · exact long_no hg
      have HY := Lib.hid hyes
      have HNO := Lib.hid hno
      clear hyes hno
      obtain ⟨L, hL⟩ : ∃ L, L = selL true (grL xs 1 (m : Int)) := ⟨_, rfl⟩
      obtain ⟨k, hk⟩ : ∃ k, k = L.length := ⟨_, rfl⟩
      have HL := Lib.hid hL.symm
      have HK := Lib.hid hk.symm
      clear hL hk
      go_wp2_with fail
      refine (i_GrantRun_b A1 n1 c1 _ (HS1.out.rd 0 rfl) (by omega) hc1 (b := true) HY.out.1 HL.out HK.out (by show grI _ _ = _; exact HY.out.2)).mono ?_
      rintro e w3 ⟨A3, c3, rfl, ho3, hb3⟩
      have HS3 := Lib.hid (HS1.out.below hb3)
      clear ho3 hb3 HS1
      go_wp2_with fail
      refine (i_GrantRun_b A1 n1 c1 _ (HS3.out.rd 0 rfl) (by omega) hc1 (b := false) HNO.out rfl rfl rfl).mono ?_
      rintro e w4 ⟨A4, c4, rfl, ho4, hb4⟩
      have HS4 := Lib.hid (HS3.out.below hb4)
      clear ho4 hb4 HS3
      go_wp2
      go_meet
      exact Lib.hid HS4.out.bel
  case rest =>
    have HB5 := hcut
    clear hcut HS1 HL1 hmn t1 t2 hlr
    go_wp2_with fail
    refine (DrawGrantRun_any A n ca _ ((HC.out.keep HB5.out).code HN.out)).mono ?_
    rintro e w6 ⟨A6, n6, c6, ys, g6, f6, rfl, hn6, ho6, hb6⟩
    have hlr : ys.length = n6 := ho6.rd.len
    have hc6 := (ti_cap ho6).1
    have HS6 := Lib.hid ((Sep.start _).new hb6 ho6)
    clear hb6 ho6
    obtain ⟨b, hb⟩ : ∃ b, b = grOk ys g6 f6 := ⟨_, rfl⟩
    obtain ⟨L, hL⟩ : ∃ L, L = selL b (grL ys g6 f6) := ⟨_, rfl⟩
    obtain ⟨k, hk⟩ : ∃ k, k = L.length := ⟨_, rfl⟩
    obtain ⟨q, hq⟩ : ∃ q, q = selI b (grI ys f6) := ⟨_, rfl⟩
    have hkl : k ≤ 20 := by rw [hk, hL]; exact selL_len (by rw [grL_len]; omega)
    have HB := Lib.hid hb.symm
    have HL := Lib.hid hL.symm
    have HK := Lib.hid hk.symm
    have HQ := Lib.hid hq.symm
    clear hb hL hk hlr hq
    go_wp2_with fail
    refine (i_GrantRun_b A6 n6 c6 _ (HS6.out.rd 0 rfl) (by omega) hc6 HB.out HL.out HK.out HQ.out).mono ?_
    rintro e w7 ⟨A7, c7, rfl, ho7, hb7⟩
    have HS7 := Lib.hid (HS6.out.new hb7 ho7)
    clear hb7 ho7 HS6
    go_wp2_with fail
    refine (s_GrantRun_b A6 n6 c6 _ (HS7.out.rd 0 rfl) (by omega) HB.out HL.out HK.out HQ.out).mono ?_
    rintro e w8 ⟨A8, c8, rfl, ho8, hb8⟩
    have HS8 := Lib.hid (HS7.out.new hb8 ho8)
    clear hb8 ho8 HS7
    have t1 : (q != q) = false := by simp
    go_wp2_with fail
    refine (vInts_same A7 A8 k c7 c8 L _ (HS8.out.rd 1 rfl) (HS8.out.rd 2 rfl) (by omega)).mono ?_
    rintro e w9 ⟨rfl, hb9⟩
    have HB9 := Lib.hid (below_next HB5.out (HS8.out.below hb9).bel)
    clear hb9 HS8 HB HL HK HB5 hkl HQ t1
    go_wp2_with fail
    refine (DrawCompactMoves_any A n ca _ ((HC.out.keep HB9.out).code HN.out)).mono ?_
    rintro e w10 ⟨A10, n10, c10, zs, rfl, hn10, ho10, hb10⟩
    have hlr : zs.length = n10 := ho10.rd.len
    have HS10 := Lib.hid ((Sep.start _).new hb10 ho10)
    clear hb10 ho10
    obtain ⟨b, hb⟩ : ∃ b, b = ownB zs := ⟨_, rfl⟩
    obtain ⟨M, hM⟩ : ∃ M, M = selA b (cmF zs.length zs).1 := ⟨_, rfl⟩
    obtain ⟨L, hL⟩ : ∃ L, L = selL b (cmF zs.length zs).2 := ⟨_, rfl⟩
    obtain ⟨q, hq⟩ : ∃ q, q = M.length := ⟨_, rfl⟩
    obtain ⟨k, hk⟩ : ∃ k, k = L.length := ⟨_, rfl⟩
    have hkl : k ≤ 20 := by rw [hk, hL]; exact selL_len (by rw [(cmF_len _ _).1]; omega)
    have hql : q ≤ 20 := by rw [hq, hM]; exact selA_len (Nat.le_trans (cmF_len _ _).2 (by omega))
    have HB := Lib.hid hb.symm
    have HM := Lib.hid hM.symm
    have HL := Lib.hid hL.symm
    have HQ := Lib.hid hq.symm
    have HK := Lib.hid hk.symm
    have HLR := Lib.hid hlr
    clear hb hL hk hlr hM hq
    go_wp2_with fail
    refine (i_CompactMoves_b A10 n10 c10 _ (HS10.out.rd 0 rfl) (by omega) HB.out HM.out HQ.out HL.out HK.out).mono ?_
    rintro e w11 ⟨A11, c11, A12, c12, rfl, ho11, ho12, hd, hb11⟩
    have HS11 := Lib.hid (HS10.out.new2 hb11 ho11 ho12 hd)
    clear hb11 ho11 ho12 hd HS10
    go_wp2_with fail
    refine (s_CompactMoves_b A10 n10 c10 _ (HS11.out.rd 0 rfl) (by omega) HB.out HM.out HQ.out HL.out HK.out).mono ?_
    rintro e w12 ⟨A13, c13, A14, c14, rfl, ho13, ho14, hd, hb12⟩
    have HS12 := Lib.hid (HS11.out.new2 hb12 ho13 ho14 hd)
    clear hb12 ho13 ho14 hd HS11
    go_wp2_with fail
    refine (vPairs_same A11 A13 q c11 c13 M _ (HS12.out.rd 1 rfl) (HS12.out.rd 3 rfl) (by omega)).mono ?_
    rintro e w13 ⟨rfl, hb13⟩
    have HS13 := Lib.hid (HS12.out.below hb13)
    clear hb13 HS12
    go_wp2_with fail
    refine (vInts_same A12 A14 k c12 c14 L _ (HS13.out.rd 2 rfl) (HS13.out.rd 4 rfl) (by omega)).mono ?_
    rintro e w14 ⟨rfl, hb14⟩
    have HS14 := Lib.hid (Sep.takeL (P := [ti A10 n10 c10 zs, tsA2 A11 q c11 M, ti A12 k c12 L]) (M := [_, _]) (HS13.out.below hb14))
    clear hb14 HS13
    go_upto_if 168 with (fail)
    go_cut [32, 33, 34, 35, 36, 37, 38, 39] from 168 to 284 (fun _ _ _ _ _ _ _ _ wx => Hid (Below w.heap.size w wx))
    case first =>
      cases b
      · go_wp2
        go_meet
        exact Lib.hid (below_next HB9.out HS14.out.bel)
      · have hMe : M = (cmF zs.length zs).1 := HM.out.symm
        have hLe : L = (cmF zs.length zs).2 := HL.out.symm
        obtain rfl : k = n10 := by rw [← HK.out, hLe, (cmF_len _ _).1, HLR.out]
        have HME := Lib.hid hMe
        have HLE := Lib.hid hLe
        have hk1 : 1 ≤ k := by have := (ownB_len HB.out).1; have := HLR.out; omega
        clear hMe hLe HM HL
        go_wp2_with (at_builtin; refine wpList_app _ rfl _ _ 34 rfl w14.heap.size 3 i0 (.int .i64 0) 1 8 Try.underlying34 hi hz0 hz1 hz2 rfl (by decide) _ _ _ _ rfl (World.ownsRow_made w14 #[] 0 (Nat.le_refl _) (Nat.zero_le _) rfl) _ _ _ _ rfl ((HS14.out.rd 0 rfl).keep (below_alloc w14 _)) (I_one zs) (by unfold maxLen; omega) (by omega) (by simp) ?_; intro A15 c15 w15 hown hgrow hat)
        have hb15 := below_app (below_alloc w14 _) (by simp) (World.ownsRow_made (size := 1) w14 #[] 0 (Nat.le_refl _) (Nat.zero_le _) rfl) hgrow
        rw [List.nil_append, Nat.zero_add] at hown
        obtain ⟨g, rfl⟩ := own_some (show Own w15 w14.heap.size (ti A15 k c15 zs) from hown) hk1
        have HS15 := Lib.hid (HS14.out.new hb15 (t := ti (some ⟨g, 0, none⟩) k c15 zs) hown)
        clear hb15 hown hgrow hat HS14 hi hz0 hz1 hz2
        go_loopw [33] (fun i wr => ∃ j : Nat, j ≤ q ∧ i = .int .i64 j ∧ Hid (Sep w9 wr [ti A10 k c10 zs, tsA2 A11 q c11 M, ti A12 k c12 L, ti (some ⟨g, 0, none⟩) k c15 (mvs zs (M.take j))])) (fun i _ => q - (intOf i).toNat)
        case atStart => exact ⟨0, by omega, rfl, HS15⟩
        case round =>
          obtain ⟨j, hj, rfl, HSr⟩ := hrel
          clear HS15
          by_cases hlt : j < q
          · obtain ⟨bm, om, x, rfl, hbl, hxk, hc0, hc1⟩ := atA2 (show Rd wr 2 A11 q (J cA2 M) from HSr.out.rd 1 rfl) hlt
            obtain ⟨t, f, y, rfl, htf, hfl, hmt, hmf, hy0⟩ := cm_at zs.length zs j x (by rw [← HME.out]; exact hxk.out)
            rw [← HME.out] at hmt hmf
            have hfl2 : f < k := by have := HLR.out; omega
            obtain ⟨b1, o1, x1, he1, _, hx1, hct⟩ := (show Rd wr 1 (some ⟨g, 0, none⟩) k (I (mvs zs (M.take j))) from HSr.out.rd 3 rfl).at_ (show t < k by omega)
            cases he1
            obtain rfl : x1 = 0 := Option.some.inj (hx1.out.symm.trans hmt)
            obtain ⟨b2, o2, x2, he2, _, hx2, hcf⟩ := (show Rd wr 1 (some ⟨g, 0, none⟩) k (I (mvs zs (M.take j))) from HSr.out.rd 3 rfl).at_ hfl2
            cases he2
            obtain rfl : x2 = y := Option.some.inj (hx2.out.symm.trans hmf)
            rw [Nat.zero_add] at hct hcf
            have hfz := fun p => World.ownsRow.frozenAt (HSr.out.own 3 _ rfl) p
            have hbg : bm ≠ g := by
              rcases HSr.out.apart 1 3 _ _ (by omega) rfl rfl with h | h
              · cases h
              · exact fun e => h (by rw [e]; rfl)
            have HY := Lib.hid hmf
            have HM1 := Lib.hid (show mvs zs (M.take (j + 1)) = mvL (mvs zs (M.take j)) t f by rw [List.take_add_one, hxk.out]; exact mvs_snoc _ _ _)
            have hyb : (x2 == 0) = false := by simp [hy0]
            have h0 : (0 : Int) ≤ (j : Int) := by omega
            have h1 : (j : Int) < (q : Int) := by omega
            have h2 : (0 : Int) ≤ (t : Int) := by omega
            have h3 : (t : Int) < (k : Int) := by omega
            have h4 : (0 : Int) ≤ (f : Int) := by omega
            have h5 : (f : Int) < (k : Int) := by omega
            have h6 : ¬ (f : Int) ≤ (t : Int) := by omega
            have htf2 : t ≠ f := by omega
            clear hmt hmf hx1 hx2 hxk hy0 hfl
            go_wp2_with fail
            go_quiet (fail)
            go_wp2_with fail
            go_region_law (fail)
            all_goals
              have S1 := HSr.out.below (below_drewN (Below.refl _ _) (nq + 1))
              have h7 := two_stores (S1.own 3 _ rfl) HY.out htf2
              have S2 := S1.write 3 rfl h7.2 (I (mvL (mvs zs (M.take j)) t f)) h7.1
              rw [← HM1.out] at S2
              have HS2 := Lib.hid S2
              clear S1 h7 S2
              go_wp2
              go_roundw
              case rel => exact ⟨j + 1, by omega, by go_num, HS2⟩
              case measure => simp [intOf]; omega
          · obtain rfl : q = j := by omega
            have hfin : mvs zs (M.take q) = L := by rw [List.take_of_length_le (by rw [HQ.out]; exact Nat.le_refl _), HME.out, HLE.out]; exact cm_end _ _
            rw [hfin] at HSr
            have HPK := Lib.hid (show ¬ frL L < nzL L - 1 by rw [HLE.out]; exact cm_packed _ _ (nzL_le _))
            have HOW := Lib.hid (show ownB L = true by rw [HLE.out]; exact cm_own HB.out)
            clear hfin
            go_wp2_with fail
            refine (vInts_same _ A12 k c15 c12 L _ (HSr.out.rd 3 rfl) (HSr.out.rd 2 rfl) (by omega)).mono ?_
            rintro e w17 ⟨rfl, hb17⟩
            have HS17 := Lib.hid (HSr.out.below hb17)
            clear hb17 HSr
            go_wp2
            go_loopw [34] (fun i wr => ∃ p : Nat, p + 1 ≤ k ∧ i = .int .i64 ((p : Int) + 1) ∧ w17 = wr) (fun i _ => k - (intOf i).toNat)
            case atStart => exact ⟨0, by omega, by go_num, rfl⟩
            case round =>
              obtain ⟨p, hp, rfl, rfl⟩ := hrel
              by_cases hlt : p + 1 < k
              · obtain ⟨b1, o1, x1, rfl, _, hx1, hc1⟩ := (show Rd w17 1 A12 k (I L) from HS17.out.rd 2 rfl).at_ (show p < k by omega)
                obtain ⟨b2, o2, y1, he2, _, hy1, hc2⟩ := (show Rd w17 1 (some ⟨b1, o1, none⟩) k (I L) from HS17.out.rd 2 rfl).at_ hlt
                cases he2
                have h1 : (p : Int) + 1 < (k : Int) := by omega
                have h2 : (0 : Int) ≤ (p : Int) := by omega
                have h3 : (p : Int) < (k : Int) := by omega
                by_cases hy0 : y1 = 0
                · subst hy0
                  go_wp2
                  go_roundw
                  case rel => exact ⟨p + 1, by omega, by go_num, by first | rfl | trivial⟩
                  case measure => simp [intOf]; omega
                · have hx0 := packed_at HPK.out hx1.out hy1.out hy0
                  have hyb : (y1 != 0) = true := by simp [hy0]
                  have hxb : (x1 == 0) = false := by simp [hx0]
                  clear hy0 hx0
                  go_wp2
                  go_roundw
                  case rel => exact ⟨p + 1, by omega, by go_num, by first | rfl | trivial⟩
                  case measure => simp [intOf]; omega
              · obtain rfl : k = p + 1 := by omega
                go_wp2
                go_loopw [35, 36, 37, 38, 39] (fun i _ _ _ _ wr => ∃ j : Nat, 1 ≤ j ∧ j ≤ 5 ∧ i = .int .i64 j ∧ Hid (Sep w9 wr [ti A10 (p + 1) c10 zs, tsA2 A11 q c11 M, ti A12 (p + 1) c12 L, ti (some ⟨g, 0, none⟩) (p + 1) c15 L])) (fun i _ _ _ _ _ => 5 - (intOf i).toNat)
                case atStart => exact ⟨1, by omega, by omega, rfl, HS17⟩
                case round =>
                  obtain ⟨j, hj1, hj5, rfl, HSr⟩ := hrel
                  clear HS17
                  by_cases hlt : j < 5
                  · obtain ⟨m5, hm5⟩ : ∃ m5, m5 = (framesL zs (j : Int)).length := ⟨_, rfl⟩
                    have hm5l : m5 ≤ 20 := by rw [hm5]; exact Nat.le_trans framesL_len (by have := HLR.out; omega)
                    have HM5 := Lib.hid hm5.symm
                    have HM6 := Lib.hid (show (framesL L (j : Int)).length = m5 by rw [hm5, HLE.out]; exact cm_frames (by omega))
                    clear hm5
                    have h1 : (j : Int) ≤ 4 := by omega
                    go_wp2_with fail
                    refine (i_FramesOf_b A10 (p + 1) c10 _ (HSr.out.rd 0 rfl) (by omega) (b := true) (by unfold framesOk; rw [HB.out, inB_iff.2 ⟨by omega, by omega⟩]; rfl) rfl HM5.out).mono ?_
                    rintro e w18 ⟨A18, c18, rfl, ho18, hb18⟩
                    have HS18 := Lib.hid (HSr.out.below hb18)
                    clear hb18 ho18 HSr
                    go_wp2_with fail
                    refine (i_FramesOf_b A12 (p + 1) c12 _ (HS18.out.rd 2 rfl) (by omega) (b := true) (by unfold framesOk; rw [HOW.out, inB_iff.2 ⟨by omega, by omega⟩]; rfl) rfl HM6.out).mono ?_
                    rintro e w19 ⟨A19, c19, rfl, ho19, hb19⟩
                    have HS19 := Lib.hid (HS18.out.below hb19)
                    clear hb19 ho19 HS18
                    have h2 : ((m5 : Int) != (m5 : Int)) = false := by simp
                    go_wp2
                    go_roundw
                    case rel => exact ⟨j + 1, by omega, by omega, by go_num, HS19⟩
                    case measure => simp [intOf]; omega
                  · obtain rfl : j = 5 := by omega
                    go_wp2
                    go_meet
                    exact Lib.hid (below_next HB9.out HSr.out.bel)
    case rest =>
      have HB14 := hcut
      clear hcut HS14 HB HM HL HK HLR HQ hkl hql HB9
      go_wp2_with fail
      refine (DrawFreeGuest_any A n ca _ ((HC.out.keep HB14.out).code HN.out)).mono ?_
      rintro e w21 ⟨A21, n21, c21, us, g21, rfl, hn21, _, ho21, hb21⟩
      have hlr : us.length = n21 := ho21.rd.len
      have HS21 := Lib.hid ((Sep.start _).new hb21 ho21)
      clear hb21 ho21
      obtain ⟨b, hb⟩ : ∃ b, b = freeOk us g21 := ⟨_, rfl⟩
      obtain ⟨L, hL⟩ : ∃ L, L = selL b (freeL us g21) := ⟨_, rfl⟩
      obtain ⟨k, hk⟩ : ∃ k, k = L.length := ⟨_, rfl⟩
      obtain ⟨q, hq⟩ : ∃ q, q = selI b ((framesL us g21).length : Int) := ⟨_, rfl⟩
      have hkl : k ≤ 20 := by rw [hk, hL]; exact selL_len (by rw [freeL_len]; omega)
      have HB := Lib.hid hb.symm
      have HL := Lib.hid hL.symm
      have HK := Lib.hid hk.symm
      have HQ := Lib.hid hq.symm
      clear hb hL hk hlr hq
      go_wp2_with fail
      refine (i_FreeGuest_b A21 n21 c21 _ (HS21.out.rd 0 rfl) (by omega) HB.out HL.out HK.out HQ.out).mono ?_
      rintro e w22 ⟨A22, c22, rfl, ho22, hb22⟩
      have HS22 := Lib.hid (HS21.out.new hb22 ho22)
      clear hb22 ho22 HS21
      go_wp2_with fail
      refine (s_FreeGuest_b A21 n21 c21 _ (HS22.out.rd 0 rfl) (by omega) HB.out HL.out HK.out HQ.out).mono ?_
      rintro e w23 ⟨A23, c23, rfl, ho23, hb23⟩
      have HS23 := Lib.hid (HS22.out.new hb23 ho23)
      clear hb23 ho23 HS22
      have t1 : (q == q) = true := by simp
      go_wp2_with fail
      refine (vInts_same A22 A23 k c22 c23 L _ (HS23.out.rd 1 rfl) (HS23.out.rd 2 rfl) (by omega)).mono ?_
      rintro e w24 ⟨rfl, hb24⟩
      go_wp2
      go_ret
      exact ⟨by simp, below_next HB14.out (HS23.out.below hb24).bel⟩
end Go.Proofs.Ytppnmpkefchknaa
