/- The walk of the law FnMappings through its contracts. FnMappings returns true for every code. No conditions. -/
import Derived.Test.YtaaocnfbbajphaaDm4
import Derived.Test.YtaaocnfbbajphaaPu4
import Derived.Deep.CutBlock
import Derived.Test.YtaaocnfbbajphaaOpC
namespace Go.Proofs.Ytaaocnfbbajphaa
open Go.RowKit
set_option linter.unusedVariables false
set_option linter.unusedSimpArgs false

set_option maxRecDepth 100000 in
set_option maxHeartbeats 16000000 in
theorem walk_FnMappings (A : Option Addr) (n ca : Nat) (w : World) (hb : Bys w A n) (hm : n ≤ maxLen) :
    Calls Try.prog 4 #[.slice A n ca] w fun e w' => e = .returned (.bool true) ∧ Below w.heap.size w w' := by
  unfold maxLen at hm
  by_cases hn : n ≤ 65536
  rotate_left
  · have H := Lib.hid hn
    clear hn
    go_enter Try.func4, Try.ntmps4
    go_wp2_with fail
    refine (vBig_eq A n ca _ hm true (by have := H.out; simp; omega)).mono ?_
    rintro e w1 ⟨rfl, rfl⟩
    go_wp2
    go_ret
    exact ⟨rfl, Below.refl _ _⟩
  have HC := Lib.hid hb
  have HN := Lib.hid hn
  clear hb hn
  go_enter Try.func4, Try.ntmps4
  go_wp2_with fail
  refine (vBig_eq A n ca _ hm false (by have := HN.out; simp; omega)).mono ?_
  rintro e w1 ⟨rfl, rfl⟩
  clear hm
  go_wp2_with fail
  refine (DrawMappedPages_any A n ca _ (HC.out.code HN.out)).mono ?_
  rintro e w1 ⟨T, rfl, hsm, S1⟩
  go_upto_region 4 with (fail)
  obtain ⟨w2, hw2⟩ : ∃ x, x = w1.alloc (.cells #[.slice T.Ad T.D.length T.cd, .slice T.Al T.L.length T.cl] 27) := ⟨_, rfl⟩
  obtain ⟨g3, hg3⟩ : ∃ x, x = w1.heap.size := ⟨_, rfl⟩
  have HB2 := Lib.hid (show Below w.heap.size w w2 by rw [hw2]; exact below_next S1.bel (below_alloc _ _))
  have HT2 := Lib.hid (show Tw w2 g3 T by rw [hw2, hg3]; exact Tw.new (td_sep hsm S1))
  rw [← hw2, ← hg3]
  clear hw2 hg3
  clear S1 hsm
  obtain ⟨xs, hxs⟩ : ∃ xs, mpL T.D T.E = xs := ⟨_, rfl⟩
  obtain ⟨nx, hnx⟩ : ∃ nx, xs.length = nx := ⟨_, rfl⟩
  obtain ⟨b, hb⟩ : ∃ b, goodB T.D T.E = b := ⟨_, rfl⟩
  have hn16 : nx ≤ 16 := by rw [← hnx, ← hxs]; exact mpL_len _ _
  have HXS := Lib.hid hxs
  have HNX := Lib.hid hnx
  have HB := Lib.hid hb
  clear hxs hnx hb
  have C3 := HT2.out.box.cell
  go_wp2_with fail
  refine (i_MappedPages_m HT2.out.td HXS.out HNX.out HB.out).mono ?_
  rintro e w3 ⟨A4, c4, rfl, R4, hb3⟩
  have HT3 := Lib.hid (HT2.out.keep hb3)
  have HB3 := Lib.hid (below_next HB2.out hb3)
  clear hb3 HT2 HB2 C3
  have C3 := HT3.out.box.cell
  go_wp2_with fail
  refine (s_MappedPages_m HT3.out.td HXS.out HNX.out HB.out).mono ?_
  rintro e w4 ⟨A6, c6, rfl, R6, hb4⟩
  have HT4 := Lib.hid (HT3.out.keep hb4)
  have HB4 := Lib.hid (below_next HB3.out hb4)
  have Q4 := Lib.hid (R4.out.keep hb4)
  clear hb4 HT3 HB3 C3 R4
  have t1 : (b != b) = false := by simp
  go_wp2_with fail
  refine (vInts_same A4 A6 nx c4 c6 xs _ Q4.out R6.out (by omega)).mono ?_
  rintro e w5 ⟨rfl, hb5⟩
  have HT5 := Lib.hid (HT4.out.keep hb5)
  have HB5 := Lib.hid (below_next HB4.out hb5)
  clear hb5 HT4 HB4 t1 Q4 R6
  go_upto_if 83 with (fail)
  go_cut [8, 9, 10, 11] from 84 to 103 (fun _ _ _ _ wx => Hid (Below w.heap.size w wx))
  case first =>
    cases b
    · go_wp2
      go_meet
      exact HB5
    · have HG := Lib.hid (goodB_iff.1 HB.out)
      go_wp2
      go_loopw [8, 9] (fun s i wr => ∃ k m : Nat, k ≤ 16 ∧ i = .int .i64 k ∧ s = .int .i64 m ∧ m ≤ 16 ∧ Hid (m = cntF T.D T.E k) ∧ Hid (Below w5.heap.size w5 wr)) (fun _ i _ => 16 - (intOf i).toNat)
      case atStart => exact ⟨0, 0, by omega, rfl, rfl, by omega, Lib.hid (cntF_zero HG.out).symm, Lib.hid (Below.refl _ _)⟩
      case round =>
        obtain ⟨k, m, hk, rfl, rfl, hm16, HM, HBr⟩ := hrel
        by_cases hlt : k < 16
        · have h1 : (k : Int) < 16 := by omega
          have HTr := Lib.hid (HT5.out.keep HBr.out)
          obtain ⟨ys, hys⟩ : ∃ ys, onL T.D T.E k = ys := ⟨_, rfl⟩
          obtain ⟨ny, hny⟩ : ∃ ny, ys.length = ny := ⟨_, rfl⟩
          have hy16 : ny ≤ 16 := by rw [← hny, ← hys]; exact onL_len _ _ _
          have hsum : m + ny = cntF T.D T.E (k + 1) := by rw [cntF_succ HG.out hlt, HM.out, hys, hny]
          have hs16 : m + ny ≤ 16 := by rw [hsum]; exact cntF_le _ _ _
          have HYS := Lib.hid hys
          have HNY := Lib.hid hny
          have HSUM := Lib.hid hsum
          have HOK := Lib.hid (onOk_good HG.out hlt)
          clear hys hny hsum
          have C3 := HTr.out.box.cell
          go_wp2_with fail
          refine (i_PagesOn_m HTr.out.td HYS.out HNY.out HOK.out).mono ?_
          rintro e w6 ⟨A10, c10, rfl, R10, hb6⟩
          have HB6 := Lib.hid (below_next HBr.out hb6)
          clear hb6 HTr C3 R10
          have gs : IntKind.i64.wrap ((m : Int) + (ny : Int)) = (m : Int) + (ny : Int) := IntWalk.i64_in _ (by omega)
          go_wp2
          go_roundw
          case rel => exact ⟨k + 1, m + ny, by omega, by go_num, by simp, by omega, HSUM, HB6⟩
          case measure => simp [intOf]; omega
        · have hk16 : k = 16 := by omega
          have hmn : (m : Int) = (nx : Int) := by
            have h3 := HM.out
            rw [hk16, cntF_all HG.out, HXS.out, HNX.out] at h3
            omega
          have e1 : ((m : Int) != (nx : Int)) = false := by rw [bne_eq_false_iff_eq]; exact hmn
          clear hmn hk16
          go_wp2
          go_meet
          exact Lib.hid (below_next HB5.out HBr.out)
  case rest =>
    have HB20 := hcut
    clear hcut HT5 HB5 HXS HNX HB
    go_wp2_with fail
    refine (DrawIsWithin_any A n ca _ ((HC.out.keep HB20.out).code HN.out)).mono ?_
    rintro e w11 ⟨T12, Ao, no, co, os, gu, rfl, hno, hsm2, S2⟩
    go_upto_region 20 with (fail)
    obtain ⟨w12, hw12⟩ : ∃ x, x = w11.alloc (.cells #[.slice T12.Ad T12.D.length T12.cd, .slice T12.Al T12.L.length T12.cl] 27) := ⟨_, rfl⟩
    obtain ⟨g12, hg12⟩ : ∃ x, x = w11.heap.size := ⟨_, rfl⟩
    have HB12 := Lib.hid (show Below w.heap.size w w12 by rw [hw12]; exact below_next (below_next HB20.out S2.bel) (below_alloc _ _))
    have HT12 := Lib.hid (show Tw w12 g12 T12 by rw [hw12, hg12]; exact Tw.new (td_first hsm2 S2))
    have HO12 := Lib.hid (show Rd w12 1 Ao no (I os) by rw [hw12]; exact (rd_last S2).keep (below_alloc _ _))
    rw [← hw12, ← hg12]
    clear hw12 hg12
    clear S2 hsm2 HB20
    obtain ⟨a2, ha2⟩ : ∃ a, wiB T12.D T12.E os gu = a := ⟨_, rfl⟩
    obtain ⟨b2, hb2⟩ : ∃ b, wiOk T12.D T12.E os gu = b := ⟨_, rfl⟩
    have HA2 := Lib.hid ha2
    have HW2 := Lib.hid hb2
    clear ha2 hb2
    have C12 := HT12.out.box.cell
    go_wp2_with fail
    refine (i_IsWithin_m Ao co HT12.out.td HO12.out hno HA2.out HW2.out).mono ?_
    rintro e w13 ⟨rfl, hb13⟩
    have HT13 := Lib.hid (HT12.out.keep hb13)
    have HO13 := Lib.hid (HO12.out.keep hb13)
    have HB13 := Lib.hid (below_next HB12.out hb13)
    clear hb13 HT12 HO12 HB12 C12
    have C12 := HT13.out.box.cell
    go_wp2_with fail
    refine (s_IsWithin_m Ao co HT13.out.td HO13.out hno HA2.out HW2.out).mono ?_
    rintro e w14 ⟨rfl, hb14⟩
    have HT14 := Lib.hid (HT13.out.keep hb14)
    have HO14 := Lib.hid (HO13.out.keep hb14)
    have HB14 := Lib.hid (below_next HB13.out hb14)
    clear hb14 HT13 HO13 HB13 C12
    have t1 : (a2 != a2) = false := by simp
    have t2 : (b2 != b2) = false := by simp
    go_upto_if 132 with (fail)
    clear t1 t2
    go_cut [19, 20, 21, 22, 23, 24] from 133 to 181 (fun _ _ _ _ _ _ wx => Hid (Below w.heap.size w wx))
    case first =>
      cases a2
      · go_wp2
        go_meet
        exact HB14
      · obtain ⟨hG, hin⟩ := within_told HA2.out
        have HIN := Lib.hid hin
        obtain ⟨ps, hps⟩ : ∃ ps, mpL T12.D T12.E = ps := ⟨_, rfl⟩
        obtain ⟨np, hnp⟩ : ∃ np, ps.length = np := ⟨_, rfl⟩
        have hn16 : np ≤ 16 := by rw [← hnp, ← hps]; exact mpL_len _ _
        have hpn : ∀ x ∈ ps, ∃ p : Nat, x = (p : Int) := by rw [← hps]; exact fun x hx => mpL_nat hG hx
        have HPS := Lib.hid hps
        have HNP := Lib.hid hnp
        have HPN := Lib.hid hpn
        have HGB := Lib.hid (goodB_true hG)
        clear hin hps hnp hpn hG
        have C12 := HT14.out.box.cell
        go_wp2_with fail
        refine (i_MappedPages_m HT14.out.td HPS.out HNP.out HGB.out).mono ?_
        rintro e w15 ⟨A19, c19, rfl, R19, hb15⟩
        have HT15 := Lib.hid (HT14.out.keep hb15)
        have HO15 := Lib.hid (HO14.out.keep hb15)
        have HB15 := Lib.hid (below_next HB14.out hb15)
        clear hb15 HT14 HO14 HB14 C12
        go_wp2
        go_loopw [21] (fun i wr => ∃ k : Nat, k ≤ np ∧ i = .int .i64 k ∧ Hid (Below w15.heap.size w15 wr)) (fun i _ => np - (intOf i).toNat)
        case atStart => exact ⟨0, by omega, rfl, Lib.hid (Below.refl _ _)⟩
        case round =>
          obtain ⟨k, hk, rfl, HBr⟩ := hrel
          by_cases hlt : k < np
          · have h0 : (0 : Int) ≤ (k : Int) := by omega
            have h1 : (k : Int) < (np : Int) := by omega
            obtain ⟨x, hx⟩ : ∃ x, ps[k]? = some x := ⟨_, List.getElem?_eq_getElem (by have := HNP.out; omega)⟩
            obtain ⟨p, rfl⟩ := HPN.out x (List.mem_of_getElem? hx)
            obtain ⟨hpo, fN, htr, hfl, hfo⟩ := HIN.out p (by rw [HPS.out]; exact List.mem_of_getElem? hx)
            obtain ⟨bp, op, rfl, hbp, hcp⟩ := (R19.out.keep HBr.out).cellAt (k := k) (u := .int .i64 (p : Int)) (by simp [I, hx])
            have hol := HO15.out.len
            have HTR := Lib.hid htr
            have HPO := Lib.hid hpo
            have HFO := Lib.hid hfo
            have hfn : (fN : Int) < (no : Int) := by omega
            have hfn0 : (0 : Int) ≤ (fN : Int) := by omega
            clear hx htr hpo hfo hol hfl
            have X0 := HT15.out.keep (below_next HBr.out (Below.drew (Below.refl wr.heap.size wr)))
            have dc0 : wr.cell? ⟨g12, 0, none⟩ = some (.slice T12.Ad T12.D.length T12.cd) := (HT15.out.keep HBr.out).box.cell 0
            have cc0 : wr.drew.cell? ⟨g12, 0, none⟩ = some (.slice T12.Ad T12.D.length T12.cd) := dc0
            have dc1 : wr.cell? ⟨g12, 1, none⟩ = some (.slice T12.Al T12.L.length T12.cl) := (HT15.out.keep HBr.out).box.cell 1
            have cc1 : wr.drew.cell? ⟨g12, 1, none⟩ = some (.slice T12.Al T12.L.length T12.cl) := dc1
            have cc2 : wr.drew.cell? ⟨bp, op + k, none⟩ = some (.int .i64 (p : Int)) := hcp
            go_upto_region 29 with (fail)
            go_region_held3 (fun w' => w'.cell? ⟨g12, 0, none⟩ = some (.slice T12.Ad T12.D.length T12.cd) ∧ w'.cell? ⟨g12, 1, none⟩ = some (.slice T12.Al T12.L.length T12.cl) ∧ w'.cell? ⟨bp, op + k, none⟩ = some (.int .i64 (p : Int))) (first | (with_reducible exact ⟨q0, q1, q2⟩) | (with_reducible exact ⟨cc0, cc1, cc2⟩)) (first
              | (go_at_call 12; refine (i_Translate_m X0.td HTR.out HPO.out).mono ?_; rintro e w16 ⟨rfl, hb16⟩; have X1 := X0.keep hb16; have HB16 := Lib.hid (below_next (below_next HBr.out (Below.drew (Below.refl wr.heap.size wr))) hb16); have hq2 := (hb16.cell (p := ⟨bp, op + k, none⟩) hbp).trans cc2; (try clear q0 q1 q2); have q0 : w16.cell? ⟨g12, 0, none⟩ = some (.slice T12.Ad T12.D.length T12.cd) := X1.box.cell 0; have q1 : w16.cell? ⟨g12, 1, none⟩ = some (.slice T12.Al T12.L.length T12.cl) := X1.box.cell 1; have q2 : w16.cell? ⟨bp, op + k, none⟩ = some (.int .i64 (p : Int)) := hq2))
            all_goals
              clear X0 q0 q1 q2 dc0 dc1 cc0 cc1 cc2 hcp hbp hb16 hq2
              obtain ⟨bo, oo, hAo, hbo, hco⟩ := (HO15.out.keep HB16.out).cellAt (k := fN) (u := .int .i64 gu) (by simp [I, HFO.out])
              clear X1
              subst hAo
              have e3 : (gu != gu) = false := by simp
              have e4 : ¬ (fN : Int) < 0 := by omega
              have e5 : ¬ (no : Int) ≤ (fN : Int) := by omega
              go_wp2
              go_roundw
              case rel => exact ⟨k + 1, by omega, by go_num, HB16⟩
              case measure => simp [intOf]; omega
          · go_wp2
            go_meet
            exact Lib.hid (below_next HB15.out HBr.out)
    case rest =>
      have HB21 := hcut
      clear hcut HT14 HO14 HB14 HA2 HW2
      go_wp2_with fail
      refine (DrawMapRun_any A n ca _ ((HC.out.keep HB21.out).code HN.out)).mono ?_
      rintro e w21 ⟨T25, p, f, c, wb, rfl, hp, hf, hc, hsm3, S3⟩
      have wfp : (Lit.int .i64 p).wf = true := wf_in (by omega) (by omega)
      have wff : (Lit.int .i64 f).wf = true := wf_in (by omega) (by omega)
      go_upto_region 33 with (fail)
      obtain ⟨w22, hw22⟩ : ∃ x, x = w21.alloc (.cells #[.slice T25.Ad T25.D.length T25.cd, .slice T25.Al T25.L.length T25.cl] 27) := ⟨_, rfl⟩
      obtain ⟨g25, hg25⟩ : ∃ x, x = w21.heap.size := ⟨_, rfl⟩
      have HB22 := Lib.hid (show Below w.heap.size w w22 by rw [hw22]; exact below_next (below_next HB21.out S3.bel) (below_alloc _ _))
      have HT22 := Lib.hid (show Tw w22 g25 T25 by rw [hw22, hg25]; exact Tw.new (td_sep hsm3 S3))
      rw [← hw22, ← hg25]
      clear hw22 hg25
      clear S3 hsm3 HB21
      obtain ⟨m3, hm3⟩ : ∃ m, runR (T25.D, T25.E) p f c wb = m := ⟨_, rfl⟩
      obtain ⟨b3, hb3⟩ : ∃ b, m3.isSome = b := ⟨_, rfl⟩
      have HM3 := Lib.hid hm3
      have HMB3 := Lib.hid hb3
      clear hm3 hb3
      have C25 := HT22.out.box.cell
      go_wp2_with fail
      refine (i_MapRun_m HT22.out.td wfp wff HM3.out HMB3.out).mono ?_
      rintro e w23 ⟨T30, rfl, HD30, HE30, htd30, hb23⟩
      go_upto_region 34 with (fail)
      obtain ⟨w24, hw24⟩ : ∃ x, x = w23.alloc (.cells #[.slice T30.Ad T30.D.length T30.cd, .slice T30.Al T30.L.length T30.cl] 27) := ⟨_, rfl⟩
      obtain ⟨g30, hg30⟩ : ∃ x, x = w23.heap.size := ⟨_, rfl⟩
      have HT24 := Lib.hid (show Tw w24 g25 T25 by rw [hw24]; exact (HT22.out.keep hb23).keep (below_alloc _ _))
      have HB24 := Lib.hid (show Below w.heap.size w w24 by rw [hw24]; exact below_next (below_next HB22.out hb23) (below_alloc _ _))
      have HO24 := Lib.hid (show Tw w24 g30 T30 by rw [hw24, hg30]; exact Tw.new htd30)
      rw [← hw24, ← hg30]
      clear hw24 hg30
      clear htd30 hb23 HT22 HB22 C25
      have C25 := HT24.out.box.cell
      go_wp2_with fail
      refine (s_MapRun_m HT24.out.td wfp wff HM3.out HMB3.out).mono ?_
      rintro e w25 ⟨T32, rfl, HD32, HE32, htd32, hb25⟩
      go_upto_region 35 with (fail)
      obtain ⟨w26, hw26⟩ : ∃ x, x = w25.alloc (.cells #[.slice T32.Ad T32.D.length T32.cd, .slice T32.Al T32.L.length T32.cl] 27) := ⟨_, rfl⟩
      obtain ⟨g32, hg32⟩ : ∃ x, x = w25.heap.size := ⟨_, rfl⟩
      have HT26 := Lib.hid (show Tw w26 g25 T25 by rw [hw26]; exact (HT24.out.keep hb25).keep (below_alloc _ _))
      have HO26 := Lib.hid (show Tw w26 g30 T30 by rw [hw26]; exact (HO24.out.keep hb25).keep (below_alloc _ _))
      have HB26 := Lib.hid (show Below w.heap.size w w26 by rw [hw26]; exact below_next (below_next HB24.out hb25) (below_alloc _ _))
      have HW26 := Lib.hid (show Tw w26 g32 T32 by rw [hw26, hg32]; exact Tw.new htd32)
      rw [← hw26, ← hg32]
      clear hw26 hg32
      clear htd32 hb25 HT24 HO24 HB24 C25 wfp wff
      have C30 := HO26.out.box.cell
      have C32 := HW26.out.box.cell
      have t1 : (b3 != b3) = false := by simp
      go_wp2_with fail
      refine (vTables_m HO26.out.td HW26.out.td (HD32.out.trans HD30.out.symm) (HE32.out.trans HE30.out.symm)).mono ?_
      rintro e w27 ⟨rfl, hb27⟩
      have HT27 := Lib.hid (HT26.out.keep hb27)
      have HO27 := Lib.hid (HO26.out.keep hb27)
      have HB27 := Lib.hid (below_next HB26.out hb27)
      clear hb27 HT26 HO26 HW26 HB26 C30 C32 t1 HD32 HE32
      go_upto_if 217 with (fail)
      go_cut [34, 35, 36, 37, 38, 39, 40] from 218 to 268 (fun _ _ _ _ _ _ _ wx => Hid (Below w.heap.size w wx))
      case first =>
        cases b3
        · go_wp2
          go_meet
          exact HB27
        · obtain ⟨y, hy⟩ := Option.isSome_iff_exists.1 HMB3.out
          obtain ⟨hG, cN, hcN, hc1, hc16, hgy, hlen, htr, hpo⟩ := run_told (HM3.out.trans hy)
          subst hcN
          have hD30 : T30.D = y.1 := by rw [HD30.out, hy]; rfl
          have hE30 : T30.E = y.2 := by rw [HE30.out, hy]; rfl
          rw [← hD30, ← hE30] at hgy hlen htr hpo
          obtain ⟨us, hus⟩ : ∃ us, mpL T25.D T25.E = us := ⟨_, rfl⟩
          obtain ⟨vs, hvs⟩ : ∃ vs, mpL T30.D T30.E = vs := ⟨_, rfl⟩
          obtain ⟨nu, hnu⟩ : ∃ n, us.length = n := ⟨_, rfl⟩
          have hu16 : nu ≤ 16 := by rw [← hnu, ← hus]; exact mpL_len _ _
          rw [hus, hvs, hnu] at hlen
          have HUS := Lib.hid hus
          have HVS := Lib.hid hvs
          have HNU := Lib.hid hnu
          have HLEN := Lib.hid hlen
          have HG1 := Lib.hid (goodB_true hG)
          have HG2 := Lib.hid hgy
          have HTR := Lib.hid htr
          have HPO := Lib.hid hpo
          clear hG hgy hlen htr hpo hus hvs hnu hD30 hE30 hy HM3 HMB3 HD30 HE30 y m3
          have C25 := HT27.out.box.cell
          go_wp2_with fail
          refine (i_MappedPages_m HT27.out.td HUS.out HNU.out HG1.out).mono ?_
          rintro e w28 ⟨A34, c34, rfl, R34, hb28⟩
          have HO28 := Lib.hid (HO27.out.keep hb28)
          have HB28 := Lib.hid (below_next HB27.out hb28)
          clear hb28 HT27 HO27 HB27 C25 R34
          have C30 := HO28.out.box.cell
          go_wp2_with fail
          refine (i_MappedPages_m HO28.out.td HVS.out HLEN.out HG2.out).mono ?_
          rintro e w29 ⟨A36, c36, rfl, R36, hb29⟩
          have HO29 := Lib.hid (HO28.out.keep hb29)
          have HB29 := Lib.hid (below_next HB28.out hb29)
          clear hb29 HO28 HB28 C30 R36
          have C30 := HO29.out.box.cell
          have g1 : IntKind.i64.wrap (p + (cN : Int)) = p + (cN : Int) := IntWalk.i64_in _ (by omega)
          have g2 : IntKind.i64.wrap (p + (cN : Int) - 1) = p + (cN : Int) - 1 := IntWalk.i64_in _ (by omega)
          have g3 : IntKind.i64.wrap (f + (cN : Int)) = f + (cN : Int) := IntWalk.i64_in _ (by omega)
          have g4 : IntKind.i64.wrap (f + (cN : Int) - 1) = f + (cN : Int) - 1 := IntWalk.i64_in _ (by omega)
          have g5 : IntKind.i64.wrap ((nu : Int) + (cN : Int)) = (nu : Int) + (cN : Int) := IntWalk.i64_in _ (by omega)
          have e1 : ((nu : Int) + (cN : Int) != (nu : Int) + (cN : Int)) = false := by simp
          have e2 : (f + (cN : Int) - 1 != f + (cN : Int) - 1) = false := by simp
          go_wp2_with fail
          refine (i_Translate_m HO29.out.td HTR.out HPO.out).mono ?_
          rintro e w30 ⟨rfl, hb30⟩
          have HB30 := Lib.hid (below_next HB29.out hb30)
          clear hb30 HO29 HB29 C30
          go_wp2
          go_meet
          exact HB30
      case rest =>
        have HB31 := hcut
        clear hcut HT27 HO27 HB27 HM3 HMB3 HD30 HE30
        go_wp2_with fail
        refine (DrawProtectPage_any A n ca _ ((HC.out.keep HB31.out).code HN.out)).mono ?_
        rintro e w31 ⟨T41, p4, b4, rfl, hp4, hsm4, S4⟩
        go_upto_region 44 with (fail)
        obtain ⟨w32, hw32⟩ : ∃ x, x = w31.alloc (.cells #[.slice T41.Ad T41.D.length T41.cd, .slice T41.Al T41.L.length T41.cl] 27) := ⟨_, rfl⟩
        obtain ⟨g41, hg41⟩ : ∃ x, x = w31.heap.size := ⟨_, rfl⟩
        have HB32 := Lib.hid (show Below w.heap.size w w32 by rw [hw32]; exact below_next (below_next HB31.out S4.bel) (below_alloc _ _))
        have HT32 := Lib.hid (show Tw w32 g41 T41 by rw [hw32, hg41]; exact Tw.new (td_sep hsm4 S4))
        rw [← hw32, ← hg41]
        clear hw32 hg41
        clear S4 hsm4 HB31
        obtain ⟨d4, hd4⟩ : ∃ b, hasOk T41.D T41.E p4 = b := ⟨_, rfl⟩
        have HD4 := Lib.hid hd4
        clear hd4
        have C41 := HT32.out.box.cell
        go_wp2_with fail
        refine (i_ProtectPage_m HT32.out.td HD4.out).mono ?_
        rintro e w33 ⟨T44, rfl, HD44, HE44, htd44, hb33⟩
        go_upto_region 45 with (fail)
        obtain ⟨w34, hw34⟩ : ∃ x, x = w33.alloc (.cells #[.slice T44.Ad T44.D.length T44.cd, .slice T44.Al T44.L.length T44.cl] 27) := ⟨_, rfl⟩
        obtain ⟨g44, hg44⟩ : ∃ x, x = w33.heap.size := ⟨_, rfl⟩
        have HT34 := Lib.hid (show Tw w34 g41 T41 by rw [hw34]; exact (HT32.out.keep hb33).keep (below_alloc _ _))
        have HB34 := Lib.hid (show Below w.heap.size w w34 by rw [hw34]; exact below_next (below_next HB32.out hb33) (below_alloc _ _))
        have HO34 := Lib.hid (show Tw w34 g44 T44 by rw [hw34, hg44]; exact Tw.new htd44)
        rw [← hw34, ← hg44]
        clear hw34 hg44
        clear htd44 hb33 HT32 HB32 C41
        have C41 := HT34.out.box.cell
        go_wp2_with fail
        refine (s_ProtectPage_m HT34.out.td HD4.out).mono ?_
        rintro e w35 ⟨T46, rfl, HD46, HE46, htd46, hb35⟩
        go_upto_region 46 with (fail)
        obtain ⟨w36, hw36⟩ : ∃ x, x = w35.alloc (.cells #[.slice T46.Ad T46.D.length T46.cd, .slice T46.Al T46.L.length T46.cl] 27) := ⟨_, rfl⟩
        obtain ⟨g46, hg46⟩ : ∃ x, x = w35.heap.size := ⟨_, rfl⟩
        have HO36 := Lib.hid (show Tw w36 g44 T44 by rw [hw36]; exact (HO34.out.keep hb35).keep (below_alloc _ _))
        have HB36 := Lib.hid (show Below w.heap.size w w36 by rw [hw36]; exact below_next (below_next HB34.out hb35) (below_alloc _ _))
        have HW36 := Lib.hid (show Tw w36 g46 T46 by rw [hw36, hg46]; exact Tw.new htd46)
        rw [← hw36, ← hg46]
        clear hw36 hg46
        clear htd46 hb35 HT34 HO34 HB34 C41
        have C44 := HO36.out.box.cell
        have C46 := HW36.out.box.cell
        have t1 : (d4 != d4) = false := by simp
        go_wp2_with fail
        refine (vTables_m HO36.out.td HW36.out.td (HD46.out.trans HD44.out.symm) (HE46.out.trans HE44.out.symm)).mono ?_
        rintro e w37 ⟨rfl, hb37⟩
        have HB37 := Lib.hid (below_next HB36.out hb37)
        clear hb37 HO36 HW36 HB36 C44 C46 t1 HD44 HE44 HD46 HE46 HD4
        go_wp2_with fail
        refine (DrawPagesOn_any A n ca _ ((HC.out.keep HB37.out).code HN.out)).mono ?_
        rintro e w41 ⟨T48, f5, rfl, hsm5, S5⟩
        go_upto_region 49 with (fail)
        obtain ⟨w42, hw42⟩ : ∃ x, x = w41.alloc (.cells #[.slice T48.Ad T48.D.length T48.cd, .slice T48.Al T48.L.length T48.cl] 27) := ⟨_, rfl⟩
        obtain ⟨g48, hg48⟩ : ∃ x, x = w41.heap.size := ⟨_, rfl⟩
        have HB42 := Lib.hid (show Below w.heap.size w w42 by rw [hw42]; exact below_next (below_next HB37.out S5.bel) (below_alloc _ _))
        have HT42 := Lib.hid (show Tw w42 g48 T48 by rw [hw42, hg48]; exact Tw.new (td_sep hsm5 S5))
        rw [← hw42, ← hg48]
        clear hw42 hg48
        clear S5 hsm5 HB37
        obtain ⟨d5, hd5⟩ : ∃ b, onOk T48.D T48.E f5 = b := ⟨_, rfl⟩
        obtain ⟨zs, hzs⟩ : ∃ zs, onL T48.D T48.E f5 = zs := ⟨_, rfl⟩
        obtain ⟨nz, hnz⟩ : ∃ n, zs.length = n := ⟨_, rfl⟩
        have hz16 : nz ≤ 16 := by rw [← hnz, ← hzs]; exact onL_len _ _ _
        have HD5 := Lib.hid hd5
        have HZS := Lib.hid hzs
        have HNZ := Lib.hid hnz
        clear hd5 hzs hnz
        have C48 := HT42.out.box.cell
        go_wp2_with fail
        refine (i_PagesOn_m HT42.out.td HZS.out HNZ.out HD5.out).mono ?_
        rintro e w43 ⟨A50, c50, rfl, R50, hb43⟩
        have HT43 := Lib.hid (HT42.out.keep hb43)
        have HB43 := Lib.hid (below_next HB42.out hb43)
        clear hb43 HT42 HB42 C48
        have C48 := HT43.out.box.cell
        go_wp2_with fail
        refine (s_PagesOn_m HT43.out.td HZS.out HNZ.out HD5.out).mono ?_
        rintro e w44 ⟨A52, c52, rfl, R52, hb44⟩
        have Q50 := Lib.hid (R50.out.keep hb44)
        have HB44 := Lib.hid (below_next HB43.out hb44)
        clear hb44 HT43 HB43 C48 R50
        have t1 : (d5 != d5) = false := by simp
        go_wp2_with fail
        refine (vInts_same A50 A52 nz c50 c52 zs _ Q50.out R52.out (by omega)).mono ?_
        rintro e w45 ⟨rfl, hb45⟩
        have HB45 := Lib.hid (below_next HB44.out hb45)
        clear hb45 HB44 t1 Q50 R52 HD5 HZS HNZ
        go_wp2_with fail
        refine (DrawTableOf_any A n ca _ ((HC.out.keep HB45.out).code HN.out)).mono ?_
        rintro e w51 ⟨B1, B2, n1, d1, n2, d2, us, vs, rfl, hn1, hn2, S6⟩
        have HR1 := Lib.hid (S6.own 0 _ rfl).rd
        have HR2 := Lib.hid (S6.own 1 _ rfl).rd
        have HB51 := Lib.hid (below_next HB45.out S6.bel)
        clear S6 HB45
        obtain ⟨m6, hm6⟩ : ∃ m, tofR us vs = m := ⟨_, rfl⟩
        obtain ⟨b6, hb6⟩ : ∃ b, m6.isSome = b := ⟨_, rfl⟩
        have HM6 := Lib.hid hm6
        have HMB6 := Lib.hid hb6
        clear hm6 hb6
        go_wp2_with fail
        refine (i_TableOf_m B1 n1 d1 us B2 n2 d2 vs HR1.out hn1 HR2.out hn2 HM6.out HMB6.out).mono ?_
        rintro e w52 ⟨T56, rfl, HD56, HE56, htd56, hb52⟩
        go_upto_region 55 with (fail)
        obtain ⟨w53, hw53⟩ : ∃ x, x = w52.alloc (.cells #[.slice T56.Ad T56.D.length T56.cd, .slice T56.Al T56.L.length T56.cl] 27) := ⟨_, rfl⟩
        obtain ⟨g56, hg56⟩ : ∃ x, x = w52.heap.size := ⟨_, rfl⟩
        have HQ1 := Lib.hid (show Rd w53 1 B1 n1 (I us) by rw [hw53]; exact (HR1.out.keep hb52).keep (below_alloc _ _))
        have HQ2 := Lib.hid (show Rd w53 1 B2 n2 (I vs) by rw [hw53]; exact (HR2.out.keep hb52).keep (below_alloc _ _))
        have HB53 := Lib.hid (show Below w.heap.size w w53 by rw [hw53]; exact below_next (below_next HB51.out hb52) (below_alloc _ _))
        have HO53 := Lib.hid (show Tw w53 g56 T56 by rw [hw53, hg56]; exact Tw.new htd56)
        rw [← hw53, ← hg56]
        clear hw53 hg56
        clear htd56 hb52 HR1 HR2 HB51
        go_wp2_with fail
        refine (s_TableOf_m B1 n1 d1 us B2 n2 d2 vs HQ1.out hn1 HQ2.out hn2 HM6.out HMB6.out).mono ?_
        rintro e w54 ⟨T58, rfl, HD58, HE58, htd58, hb54⟩
        go_upto_region 56 with (fail)
        obtain ⟨w55, hw55⟩ : ∃ x, x = w54.alloc (.cells #[.slice T58.Ad T58.D.length T58.cd, .slice T58.Al T58.L.length T58.cl] 27) := ⟨_, rfl⟩
        obtain ⟨g58, hg58⟩ : ∃ x, x = w54.heap.size := ⟨_, rfl⟩
        have HO55 := Lib.hid (show Tw w55 g56 T56 by rw [hw55]; exact (HO53.out.keep hb54).keep (below_alloc _ _))
        have HB55 := Lib.hid (show Below w.heap.size w w55 by rw [hw55]; exact below_next (below_next HB53.out hb54) (below_alloc _ _))
        have HW55 := Lib.hid (show Tw w55 g58 T58 by rw [hw55, hg58]; exact Tw.new htd58)
        rw [← hw55, ← hg58]
        clear hw55 hg58
        clear htd58 hb54 HQ1 HQ2 HO53 HB53
        have C56 := HO55.out.box.cell
        have C58 := HW55.out.box.cell
        have t1 : (b6 == b6) = true := by simp
        go_wp2_with fail
        refine (vTables_m HO55.out.td HW55.out.td (HD58.out.trans HD56.out.symm) (HE58.out.trans HE56.out.symm)).mono ?_
        rintro e w57 ⟨rfl, hb57⟩
        have HB57 := Lib.hid (below_next HB55.out hb57)
        clear hb57 HO55 HW55 HB55 C56 C58 t1
        go_wp2
        go_ret
        exact ⟨rfl, HB57.out⟩
end Go.Proofs.Ytaaocnfbbajphaa
