/- The walk of the law FnTables through its contracts. FnTables returns true for every code. No conditions. -/
import Derived.Test.YtaaocnfbbajphaaPt4
import Derived.Deep.CutBlock
import Derived.Test.YtaaocnfbbajphaaOpC
import Derived.Test.YtaaocnfbbajphaaOpC
namespace Go.Proofs.Ytaaocnfbbajphaa
open Go.RowKit
set_option linter.unusedVariables false
set_option linter.unusedSimpArgs false

set_option maxRecDepth 100000 in
set_option maxHeartbeats 16000000 in
theorem walk_FnTables (A : Option Addr) (n ca : Nat) (w : World) (hb : Bys w A n) (hm : n ≤ maxLen) :
    Calls Try.prog 3 #[.slice A n ca] w fun e w' => e = .returned (.bool true) ∧ Below w.heap.size w w' := by
  unfold maxLen at hm
  by_cases hn : n ≤ 65536
  rotate_left
  · have H := Lib.hid hn
    clear hn
    go_enter Try.func3, Try.ntmps3
    go_wp2_with fail
    refine (vBig_eq A n ca _ hm true (by have := H.out; simp; omega)).mono ?_
    rintro e w1 ⟨rfl, rfl⟩
    go_wp2
    go_ret
    exact ⟨rfl, Below.refl _ _⟩
  have HC := Lib.hid hb
  have HN := Lib.hid hn
  clear hb hn
  go_enter Try.func3, Try.ntmps3
  go_wp2_with fail
  refine (vBig_eq A n ca _ hm false (by have := HN.out; simp; omega)).mono ?_
  rintro e w1 ⟨rfl, rfl⟩
  clear hm
  go_wp2_with fail
  refine (DrawMapPage_any A n ca _ (HC.out.code HN.out)).mono ?_
  rintro e w1 ⟨T, p, f, wb, rfl, hp, hf, hsm, S1⟩
  have wfp : (Lit.int .i64 p).wf = true := wf_in (by omega) (by omega)
  have wff : (Lit.int .i64 f).wf = true := wf_in (by omega) (by omega)
  go_upto_region 4 with (fail)
  obtain ⟨w2, hw2⟩ : ∃ x, x = w1.alloc (.cells #[.slice T.Ad T.D.length T.cd, .slice T.Al T.L.length T.cl] 27) := ⟨_, rfl⟩
  obtain ⟨g3, hg3⟩ : ∃ x, x = w1.heap.size := ⟨_, rfl⟩
  have HB2 := Lib.hid (show Below w.heap.size w w2 by rw [hw2]; exact below_next S1.bel (below_alloc _ _))
  have HT2 := Lib.hid (show Tw w2 g3 T by rw [hw2, hg3]; exact Tw.new (td_sep hsm S1))
  rw [← hw2, ← hg3]
  clear hw2 hg3
  clear S1 hsm
  obtain ⟨m, hm⟩ : ∃ m, mpR (T.D, T.E) p f wb = m := ⟨_, rfl⟩
  obtain ⟨b, hb⟩ : ∃ b, m.isSome = b := ⟨_, rfl⟩
  obtain ⟨gb, hgb⟩ : ∃ gb, goodB T.D T.E = gb := ⟨_, rfl⟩
  have HM := Lib.hid hm
  have HMB := Lib.hid hb
  have HGB := Lib.hid hgb
  clear hm hb hgb
  have C3 := HT2.out.box.cell
  go_wp2_with fail
  refine (i_MapPage_m HT2.out.td wfp wff HM.out HMB.out).mono ?_
  rintro e w3 ⟨T7, rfl, HD7, HE7, htd7, hb3⟩
  go_upto_region 5 with (fail)
  obtain ⟨w4, hw4⟩ : ∃ x, x = w3.alloc (.cells #[.slice T7.Ad T7.D.length T7.cd, .slice T7.Al T7.L.length T7.cl] 27) := ⟨_, rfl⟩
  obtain ⟨g7, hg7⟩ : ∃ x, x = w3.heap.size := ⟨_, rfl⟩
  have HT4 := Lib.hid (show Tw w4 g3 T by rw [hw4]; exact (HT2.out.keep hb3).keep (below_alloc _ _))
  have HB4 := Lib.hid (show Below w.heap.size w w4 by rw [hw4]; exact below_next (below_next HB2.out hb3) (below_alloc _ _))
  have HO4 := Lib.hid (show Tw w4 g7 T7 by rw [hw4, hg7]; exact Tw.new htd7)
  rw [← hw4, ← hg7]
  clear hw4 hg7
  clear htd7 hb3 HT2 HB2 C3
  have C3 := HT4.out.box.cell
  go_wp2_with fail
  refine (s_MapPage_l HT4.out.td wfp wff HM.out HMB.out).mono ?_
  rintro e w5 ⟨T9, rfl, HD9, HE9, htd9, hb5⟩
  go_upto_region 6 with (fail)
  obtain ⟨w6, hw6⟩ : ∃ x, x = w5.alloc (.cells #[.slice T9.Ad T9.D.length T9.cd, .slice T9.Al T9.L.length T9.cl] 27) := ⟨_, rfl⟩
  obtain ⟨g9, hg9⟩ : ∃ x, x = w5.heap.size := ⟨_, rfl⟩
  have HT6 := Lib.hid (show Tw w6 g3 T by rw [hw6]; exact (HT4.out.keep hb5).keep (below_alloc _ _))
  have HO6 := Lib.hid (show Tw w6 g7 T7 by rw [hw6]; exact (HO4.out.keep hb5).keep (below_alloc _ _))
  have HB6 := Lib.hid (show Below w.heap.size w w6 by rw [hw6]; exact below_next (below_next HB4.out hb5) (below_alloc _ _))
  have HW6 := Lib.hid (show Tw w6 g9 T9 by rw [hw6, hg9]; exact Tw.new htd9)
  rw [← hw6, ← hg9]
  clear hw6 hg9
  clear htd9 hb5 HT4 HO4 HB4 C3 wfp wff
  go_cut [92] from 69 to 91 (fun x wx => x = .bool false ∧ Hid (Below w6.heap.size w6 wx))
  case first =>
    have Xt := HT6.out.keep (Below.drew (Below.refl w6.heap.size w6))
    have Xo := HO6.out.keep (Below.drew (Below.refl w6.heap.size w6))
    have Xw := HW6.out.keep (Below.drew (Below.refl w6.heap.size w6))
    have XB : Below w6.heap.size w6 w6.drew := Below.drew (Below.refl _ _)
    have Ct := Xt.box.cell
    have Co := Xo.box.cell
    have Cw := Xw.box.cell
    have t1 : (b != b) = false := by simp
    have t2 : (gb != gb) = false := by simp
    have HMK : Hid True := Lib.hid trivial
    cases b
    · (first
        | go_region_law (first
          | (go_simp; go_at_call 9; refine (vTables_m Xo.td Xw.td (HD9.out.trans HD7.out.symm) (HE9.out.trans HE7.out.symm)).mono ?_; rintro e wa ⟨rfl, hb⟩; have Xt := Xt.keep hb; have Xo := Xo.keep hb; have Xw := Xw.keep hb; have XB := below_next XB hb; clear hb Ct Co Cw; have Ct := Xt.box.cell; have Co := Xo.box.cell; have Cw := Xw.box.cell)
          | (go_simp; go_at_call 10; have hmk := HMK; clear HMK hmk; refine (i_IsTable_m Xt.td HGB.out).mono ?_; rintro e wb1 ⟨rfl, hb⟩; have Xt := Xt.keep hb; have Xo := Xo.keep hb; have Xw := Xw.keep hb; have XB := below_next XB hb; clear hb Ct Co Cw; have Ct := Xt.box.cell; have Co := Xo.box.cell; have Cw := Xw.box.cell)
          | (go_simp; go_at_call 11; refine (s_IsTable_m Xt.td HGB.out).mono ?_; rintro e wc ⟨rfl, hb⟩; have Xt := Xt.keep hb; have Xo := Xo.keep hb; have Xw := Xw.keep hb; have XB := below_next XB hb; clear hb Ct Co Cw; have Ct := Xt.box.cell; have Co := Xo.box.cell; have Cw := Xw.box.cell)
          | (refine wanted_no (by rfl) ?_))
        | fail)
      all_goals
        have HXB := Lib.hid XB
        clear Xt Xo Xw XB Ct Co Cw
        go_wp2_with fail
        go_meet
        exact ⟨rfl, HXB⟩
    · have HG7 := Lib.hid (show goodB T7.D T7.E = true by rw [HD7.out, HE7.out]; exact oGood HM.out HMB.out)
      clear Ct Co Cw
      have dc0 : w6.cell? ⟨g3, 0, none⟩ = some (.slice T.Ad T.D.length T.cd) := HT6.out.box.cell 0
      have cc0 : w6.drew.cell? ⟨g3, 0, none⟩ = some (.slice T.Ad T.D.length T.cd) := dc0
      have dc1 : w6.cell? ⟨g3, 1, none⟩ = some (.slice T.Al T.L.length T.cl) := HT6.out.box.cell 1
      have cc1 : w6.drew.cell? ⟨g3, 1, none⟩ = some (.slice T.Al T.L.length T.cl) := dc1
      have dc2 : w6.cell? ⟨g7, 0, none⟩ = some (.slice T7.Ad T7.D.length T7.cd) := HO6.out.box.cell 0
      have cc2 : w6.drew.cell? ⟨g7, 0, none⟩ = some (.slice T7.Ad T7.D.length T7.cd) := dc2
      have dc3 : w6.cell? ⟨g7, 1, none⟩ = some (.slice T7.Al T7.L.length T7.cl) := HO6.out.box.cell 1
      have cc3 : w6.drew.cell? ⟨g7, 1, none⟩ = some (.slice T7.Al T7.L.length T7.cl) := dc3
      have dc4 : w6.cell? ⟨g9, 0, none⟩ = some (.slice T9.Ad T9.D.length T9.cd) := HW6.out.box.cell 0
      have cc4 : w6.drew.cell? ⟨g9, 0, none⟩ = some (.slice T9.Ad T9.D.length T9.cd) := dc4
      have dc5 : w6.cell? ⟨g9, 1, none⟩ = some (.slice T9.Al T9.L.length T9.cl) := HW6.out.box.cell 1
      have cc5 : w6.drew.cell? ⟨g9, 1, none⟩ = some (.slice T9.Al T9.L.length T9.cl) := dc5
      go_region_held3 (fun w' => w'.cell? ⟨g3, 0, none⟩ = some (.slice T.Ad T.D.length T.cd) ∧ w'.cell? ⟨g3, 1, none⟩ = some (.slice T.Al T.L.length T.cl) ∧ w'.cell? ⟨g7, 0, none⟩ = some (.slice T7.Ad T7.D.length T7.cd) ∧ w'.cell? ⟨g7, 1, none⟩ = some (.slice T7.Al T7.L.length T7.cl) ∧ w'.cell? ⟨g9, 0, none⟩ = some (.slice T9.Ad T9.D.length T9.cd) ∧ w'.cell? ⟨g9, 1, none⟩ = some (.slice T9.Al T9.L.length T9.cl)) (first | (with_reducible exact ⟨q0, q1, q2, q3, q4, q5⟩) | (with_reducible exact ⟨cc0, cc1, cc2, cc3, cc4, cc5⟩) | (refine ⟨?_, ?_, ?_, ?_, ?_, ?_⟩ <;> (repeat (first | (with_reducible exact q0) | (with_reducible exact q1) | (with_reducible exact q2) | (with_reducible exact q3) | (with_reducible exact q4) | (with_reducible exact q5) | (with_reducible exact cc0) | (with_reducible exact cc1) | (with_reducible exact cc2) | (with_reducible exact cc3) | (with_reducible exact cc4) | (with_reducible exact cc5) | (with_reducible exact dc0) | (with_reducible exact dc1) | (with_reducible exact dc2) | (with_reducible exact dc3) | (with_reducible exact dc4) | (with_reducible exact dc5) | (with_reducible refine kallocG ?_) | (with_reducible refine kdrewG ?_))))) (first
          | (go_at_call 9; refine (vTables_m Xo.td Xw.td (HD9.out.trans HD7.out.symm) (HE9.out.trans HE7.out.symm)).mono ?_; rintro e wa ⟨rfl, hb⟩; have Xt := Xt.keep hb; have Xo := Xo.keep hb; have Xw := Xw.keep hb; have XB := below_next XB hb; clear hb; (try clear q0 q1 q2 q3 q4 q5); have q0 : wa.cell? ⟨g3, 0, none⟩ = some (.slice T.Ad T.D.length T.cd) := Xt.box.cell 0; have q1 : wa.cell? ⟨g3, 1, none⟩ = some (.slice T.Al T.L.length T.cl) := Xt.box.cell 1; have q2 : wa.cell? ⟨g7, 0, none⟩ = some (.slice T7.Ad T7.D.length T7.cd) := Xo.box.cell 0; have q3 : wa.cell? ⟨g7, 1, none⟩ = some (.slice T7.Al T7.L.length T7.cl) := Xo.box.cell 1; have q4 : wa.cell? ⟨g9, 0, none⟩ = some (.slice T9.Ad T9.D.length T9.cd) := Xw.box.cell 0; have q5 : wa.cell? ⟨g9, 1, none⟩ = some (.slice T9.Al T9.L.length T9.cl) := Xw.box.cell 1)
          | (go_at_call 10; have hmk := HMK; clear HMK hmk; refine (i_IsTable_m Xt.td HGB.out).mono ?_; rintro e wb1 ⟨rfl, hb⟩; have Xt := Xt.keep hb; have Xo := Xo.keep hb; have Xw := Xw.keep hb; have XB := below_next XB hb; clear hb; (try clear q0 q1 q2 q3 q4 q5); have q0 : wb1.cell? ⟨g3, 0, none⟩ = some (.slice T.Ad T.D.length T.cd) := Xt.box.cell 0; have q1 : wb1.cell? ⟨g3, 1, none⟩ = some (.slice T.Al T.L.length T.cl) := Xt.box.cell 1; have q2 : wb1.cell? ⟨g7, 0, none⟩ = some (.slice T7.Ad T7.D.length T7.cd) := Xo.box.cell 0; have q3 : wb1.cell? ⟨g7, 1, none⟩ = some (.slice T7.Al T7.L.length T7.cl) := Xo.box.cell 1; have q4 : wb1.cell? ⟨g9, 0, none⟩ = some (.slice T9.Ad T9.D.length T9.cd) := Xw.box.cell 0; have q5 : wb1.cell? ⟨g9, 1, none⟩ = some (.slice T9.Al T9.L.length T9.cl) := Xw.box.cell 1)
          | (go_at_call 11; refine (s_IsTable_m Xt.td HGB.out).mono ?_; rintro e wc ⟨rfl, hb⟩; have Xt := Xt.keep hb; have Xo := Xo.keep hb; have Xw := Xw.keep hb; have XB := below_next XB hb; clear hb; (try clear q0 q1 q2 q3 q4 q5); have q0 : wc.cell? ⟨g3, 0, none⟩ = some (.slice T.Ad T.D.length T.cd) := Xt.box.cell 0; have q1 : wc.cell? ⟨g3, 1, none⟩ = some (.slice T.Al T.L.length T.cl) := Xt.box.cell 1; have q2 : wc.cell? ⟨g7, 0, none⟩ = some (.slice T7.Ad T7.D.length T7.cd) := Xo.box.cell 0; have q3 : wc.cell? ⟨g7, 1, none⟩ = some (.slice T7.Al T7.L.length T7.cl) := Xo.box.cell 1; have q4 : wc.cell? ⟨g9, 0, none⟩ = some (.slice T9.Ad T9.D.length T9.cd) := Xw.box.cell 0; have q5 : wc.cell? ⟨g9, 1, none⟩ = some (.slice T9.Al T9.L.length T9.cl) := Xw.box.cell 1)
          | (go_at_call 10; refine (i_IsTable_m Xo.td HG7.out).mono ?_; rintro e wd ⟨rfl, hb⟩; have Xt := Xt.keep hb; have Xo := Xo.keep hb; have Xw := Xw.keep hb; have XB := below_next XB hb; clear hb; (try clear q0 q1 q2 q3 q4 q5); have q0 : wd.cell? ⟨g3, 0, none⟩ = some (.slice T.Ad T.D.length T.cd) := Xt.box.cell 0; have q1 : wd.cell? ⟨g3, 1, none⟩ = some (.slice T.Al T.L.length T.cl) := Xt.box.cell 1; have q2 : wd.cell? ⟨g7, 0, none⟩ = some (.slice T7.Ad T7.D.length T7.cd) := Xo.box.cell 0; have q3 : wd.cell? ⟨g7, 1, none⟩ = some (.slice T7.Al T7.L.length T7.cl) := Xo.box.cell 1; have q4 : wd.cell? ⟨g9, 0, none⟩ = some (.slice T9.Ad T9.D.length T9.cd) := Xw.box.cell 0; have q5 : wd.cell? ⟨g9, 1, none⟩ = some (.slice T9.Al T9.L.length T9.cl) := Xw.box.cell 1))
      all_goals
        have HXB := Lib.hid XB
        clear Xt Xo Xw XB
        go_wp2_with fail
        go_meet
        exact ⟨rfl, HXB⟩
  case rest =>
    obtain ⟨rfl, HB7⟩ := hcut
    have HT7 := Lib.hid (HT6.out.keep HB7.out)
    have HO7 := Lib.hid (HO6.out.keep HB7.out)
    have HC7 := Lib.hid (below_next HB6.out HB7.out)
    clear HT6 HO6 HW6 HB6 HB7 HD9 HE9
    go_upto_if 93 with (fail)
    go_cut [11, 12, 13, 14, 15, 16, 17, 18, 19, 20, 21, 22, 23, 24, 25, 26, 27, 28] from 93 to 219 (fun _ _ _ _ _ _ _ _ _ _ _ _ _ _ _ _ _ _ wx => Hid (Below w.heap.size w wx))
    case first =>
      cases b
      · go_wp2
        go_meet
        exact HC7
      · obtain ⟨y, hy⟩ := Option.isSome_iff_exists.1 HMB.out
        obtain ⟨hG, q, hpq, hq, hf16, hfr, hy1, hy2, hGy, hU, hO⟩ := map_told (HM.out.trans hy)
        subst hpq
        have hD7 : T7.D = y.1 := by rw [HD7.out, hy]; rfl
        have hE7 : T7.E = y.2 := by rw [HE7.out, hy]; rfl
        rw [← hD7, ← hE7] at hGy hU hO
        rw [← hD7] at hy1
        rw [← hE7] at hy2
        have HG := Lib.hid hG
        have HGY := Lib.hid hGy
        have HU := Lib.hid hU
        have HY1 := Lib.hid hy1
        have HY2 := Lib.hid hy2
        have HTR1 := Lib.hid (show trR T7.D T7.E q false = (f, 0) by rw [(tr_at hGy hq false).1, hO]; exact trE_frame hf16.1 wb)
        have HTR2 := Lib.hid (show trR T7.D T7.E q true = if wb then (f, 0) else (-1, 3) by rw [(tr_at hGy hq true).1, hO]; exact trE_write hf16.1 wb)
        have HPG := Lib.hid (tr_at hGy hq false).2
        clear hG hGy hU hO hy1 hy2 hD7 hE7 hfr hy HM HMB HD7 HE7 y m
        have C7 := HO7.out.box.cell
        have tf : (f != f) = false := by simp
        go_wp2_with fail
        refine (i_Translate_m HO7.out.td HTR1.out HPG.out).mono ?_
        rintro e w8 ⟨rfl, hb8⟩
        have HT8 := Lib.hid (HT7.out.keep hb8)
        have HO8 := Lib.hid (HO7.out.keep hb8)
        have HC8 := Lib.hid (below_next HC7.out hb8)
        clear hb8 HT7 HO7 HC7 C7
        have C7 := HO8.out.box.cell
        go_wp2_with fail
        refine (i_UnmapPage_m HO8.out.td HU.out rfl).mono ?_
        rintro e w9 ⟨T14, rfl, HD14, HE14, htd14, hb9⟩
        go_upto_region 11 with (fail)
        obtain ⟨w10, hw10⟩ : ∃ x, x = w9.alloc (.cells #[.slice T14.Ad T14.D.length T14.cd, .slice T14.Al T14.L.length T14.cl] 27) := ⟨_, rfl⟩
        obtain ⟨g14, hg14⟩ : ∃ x, x = w9.heap.size := ⟨_, rfl⟩
        have HT10 := Lib.hid (show Tw w10 g3 T by rw [hw10]; exact (HT8.out.keep hb9).keep (below_alloc _ _))
        have HO10 := Lib.hid (show Tw w10 g7 T7 by rw [hw10]; exact (HO8.out.keep hb9).keep (below_alloc _ _))
        have HC10 := Lib.hid (show Below w.heap.size w w10 by rw [hw10]; exact below_next (below_next HC8.out hb9) (below_alloc _ _))
        have HR10 := Lib.hid (show Tw w10 g14 T14 by rw [hw10, hg14]; exact Tw.new htd14)
        rw [← hw10, ← hg14]
        clear hw10 hg14
        have HG14 := Lib.hid (show goodB T14.D T14.E = true by rw [HD14.out, HE14.out]; exact goodB_true HG.out)
        clear htd14 hb9 HT8 HO8 HC8 C7
        have C14 := HR10.out.box.cell
        go_wp2_with fail
        refine (i_IsTable_m HR10.out.td HG14.out).mono ?_
        rintro e w11 ⟨rfl, hb11⟩
        have HT11 := Lib.hid (HT10.out.keep hb11)
        have HO11 := Lib.hid (HO10.out.keep hb11)
        have HR11 := Lib.hid (HR10.out.keep hb11)
        have HC11 := Lib.hid (below_next HC10.out hb11)
        clear hb11 HT10 HO10 HR10 HC10 C14 tf
        obtain ⟨x2, y2, h2, hd2⟩ := write_told HTR2.out
        have HTR3 := Lib.hid h2
        clear h2
        have C7 := HO11.out.box.cell
        go_wp2_with fail
        refine (i_Translate_m HO11.out.td HTR3.out HPG.out).mono ?_
        rintro e w12 ⟨rfl, hb12⟩
        have HT12 := Lib.hid (HT11.out.keep hb12)
        have HO12 := Lib.hid (HO11.out.keep hb12)
        have HR12 := Lib.hid (HR11.out.keep hb12)
        have HC12 := Lib.hid (below_next HC11.out hb12)
        clear hb12 HT11 HO11 HR11 HC11 C7
        go_wp2
        clear hd2
        go_loopw [19] (fun i wr => ∃ k : Nat, k ≤ 16 ∧ i = .int .i64 k ∧ Hid (Below w12.heap.size w12 wr)) (fun i _ => 16 - (intOf i).toNat)
        case atStart => exact ⟨0, by omega, rfl, Lib.hid (Below.refl _ _)⟩
        case round =>
          obtain ⟨k, hk, rfl, HBr⟩ := hrel
          by_cases hlt : k < 16
          · have h1 : (k : Int) < 16 := by omega
            have HT13 := Lib.hid (HT12.out.keep HBr.out)
            have HO13 := Lib.hid (HO12.out.keep HBr.out)
            have HR13 := Lib.hid (HR12.out.keep HBr.out)
            obtain ⟨⟨a, b⟩, hab⟩ : ∃ x, trR T.D T.E k true = x := ⟨_, rfl⟩
            obtain ⟨⟨c, d⟩, hcd⟩ : ∃ x, trR T7.D T7.E k true = x := ⟨_, rfl⟩
            have HNE := Lib.hid (show k ≠ q → c = a ∧ (d = b ∨ (b = 1 ∧ d = 2 ∧ k / 4 = q / 4)) from fun hkq => by
              have h3 := tr_ne HG.out hq hlt hkq ⟨f, wb⟩
              rw [← HY1.out, ← HY2.out, ← (tr_at HGY.out hlt true).1, ← (tr_at HG.out hlt true).1, hab, hcd] at h3
              exact h3)
            have HAB := Lib.hid hab
            have HCD := Lib.hid hcd
            have HAB2 := Lib.hid (show trR T14.D T14.E k true = (a, b) by rw [HD14.out, HE14.out]; exact hab)
            have HP1 := Lib.hid (tr_at HG.out hlt true).2
            have HP2 := Lib.hid (tr_at HGY.out hlt true).2
            have HP3 := Lib.hid (show pageOk T14.D T14.E k = true by rw [HD14.out, HE14.out]; exact (tr_at HG.out hlt true).2)
            clear hab hcd
            have C3 := HT13.out.box.cell
            go_wp2_with fail
            refine (i_Translate_m HT13.out.td HAB.out HP1.out).mono ?_
            rintro e w14 ⟨rfl, hb14⟩
            have HO14 := Lib.hid (HO13.out.keep hb14)
            have HR14 := Lib.hid (HR13.out.keep hb14)
            have HB14 := Lib.hid (below_next HBr.out hb14)
            clear hb14 HT13 HO13 HR13 C3
            have C7 := HO14.out.box.cell
            go_wp2_with fail
            refine (i_Translate_m HO14.out.td HCD.out HP2.out).mono ?_
            rintro e w15 ⟨rfl, hb15⟩
            have HR15 := Lib.hid (HR14.out.keep hb15)
            have HB15 := Lib.hid (below_next HB14.out hb15)
            clear hb15 HO14 HR14 HB14 C7
            have C14 := HR15.out.box.cell
            go_wp2_with fail
            refine (i_Translate_m HR15.out.td HAB2.out HP3.out).mono ?_
            rintro e w16 ⟨rfl, hb16⟩
            have HB16 := Lib.hid (below_next HB15.out hb16)
            clear hb16 HR15 HB15 C14
            have ea : (a != a) = false := by simp
            have eb : (b != b) = false := by simp
            by_cases hkq : k = q
            · have e1 : ((k : Int) != (q : Int)) = false := by rw [bne_eq_false_iff_eq]; omega
              clear hkq
              go_wp2
              go_roundw
              case rel => exact ⟨k + 1, by omega, by go_num, HB16⟩
              case measure => simp [intOf]; omega
            · have e1 : ((k : Int) != (q : Int)) = true := by rw [bne_iff_ne]; omega
              obtain ⟨hca, hdb⟩ := HNE.out hkq
              clear hkq
              subst hca
              rcases hdb with hdb | ⟨hb1, hd2, hkq4⟩
              · subst hdb
                go_wp2
                go_roundw
                case rel => exact ⟨k + 1, by omega, by go_num, HB16⟩
                case measure => simp [intOf]; omega
              · subst hb1 hd2
                have gk0 : (k : Int).tdiv 4 = (k : Int) / 4 := Int.tdiv_eq_ediv_of_nonneg (by omega)
                have gk1 : IntKind.i64.wrap ((k : Int) / 4) = (k : Int) / 4 := IntWalk.i64_in _ (by omega)
                have gq0 : (q : Int).tdiv 4 = (q : Int) / 4 := Int.tdiv_eq_ediv_of_nonneg (by omega)
                have gq1 : IntKind.i64.wrap ((q : Int) / 4) = (q : Int) / 4 := IntWalk.i64_in _ (by omega)
                have e4 : ((k : Int) / 4 != (q : Int) / 4) = false := by rw [bne_eq_false_iff_eq]; omega
                clear hkq4
                go_wp2
                go_roundw
                case rel => exact ⟨k + 1, by omega, by go_num, HB16⟩
                case measure => simp [intOf]; omega
          · go_wp2
            go_meet
            exact Lib.hid (below_next HC12.out HBr.out)
    case rest =>
      have HB20 := hcut
      clear hcut HT7 HO7 HC7 HM HMB HGB HD7 HE7
      go_wp2_with fail
      refine (DrawUnmapPage_any A n ca _ ((HC.out.keep HB20.out).code HN.out)).mono ?_
      rintro e w21 ⟨T29, p2, rfl, hp2, hsm2, S2⟩
      go_upto_region 27 with (fail)
      obtain ⟨w22, hw22⟩ : ∃ x, x = w21.alloc (.cells #[.slice T29.Ad T29.D.length T29.cd, .slice T29.Al T29.L.length T29.cl] 27) := ⟨_, rfl⟩
      obtain ⟨g29, hg29⟩ : ∃ x, x = w21.heap.size := ⟨_, rfl⟩
      have HB22 := Lib.hid (show Below w.heap.size w w22 by rw [hw22]; exact below_next (below_next HB20.out S2.bel) (below_alloc _ _))
      have HT22 := Lib.hid (show Tw w22 g29 T29 by rw [hw22, hg29]; exact Tw.new (td_sep hsm2 S2))
      rw [← hw22, ← hg29]
      clear hw22 hg29
      clear S2 hsm2 HB20
      obtain ⟨m2, hm2⟩ : ∃ m2, uR T29.D T29.E p2 = m2 := ⟨_, rfl⟩
      obtain ⟨b2, hb2⟩ : ∃ b2, m2.isSome = b2 := ⟨_, rfl⟩
      have HM2 := Lib.hid hm2
      have HMB2 := Lib.hid hb2
      clear hm2 hb2
      have C29 := HT22.out.box.cell
      go_wp2_with fail
      refine (i_UnmapPage_m HT22.out.td HM2.out HMB2.out).mono ?_
      rintro e w23 ⟨T31, rfl, HD31, HE31, htd31, hb23⟩
      go_upto_region 28 with (fail)
      obtain ⟨w24, hw24⟩ : ∃ x, x = w23.alloc (.cells #[.slice T31.Ad T31.D.length T31.cd, .slice T31.Al T31.L.length T31.cl] 27) := ⟨_, rfl⟩
      obtain ⟨g31, hg31⟩ : ∃ x, x = w23.heap.size := ⟨_, rfl⟩
      have HT24 := Lib.hid (show Tw w24 g29 T29 by rw [hw24]; exact (HT22.out.keep hb23).keep (below_alloc _ _))
      have HB24 := Lib.hid (show Below w.heap.size w w24 by rw [hw24]; exact below_next (below_next HB22.out hb23) (below_alloc _ _))
      have HO24 := Lib.hid (show Tw w24 g31 T31 by rw [hw24, hg31]; exact Tw.new htd31)
      rw [← hw24, ← hg31]
      clear hw24 hg31
      clear htd31 hb23 HT22 HB22 C29
      have C29 := HT24.out.box.cell
      go_wp2_with fail
      refine (s_UnmapPage_m HT24.out.td HM2.out HMB2.out).mono ?_
      rintro e w25 ⟨T33, rfl, HD33, HE33, htd33, hb25⟩
      go_upto_region 29 with (fail)
      obtain ⟨w26, hw26⟩ : ∃ x, x = w25.alloc (.cells #[.slice T33.Ad T33.D.length T33.cd, .slice T33.Al T33.L.length T33.cl] 27) := ⟨_, rfl⟩
      obtain ⟨g33, hg33⟩ : ∃ x, x = w25.heap.size := ⟨_, rfl⟩
      have HO26 := Lib.hid (show Tw w26 g31 T31 by rw [hw26]; exact (HO24.out.keep hb25).keep (below_alloc _ _))
      have HB26 := Lib.hid (show Below w.heap.size w w26 by rw [hw26]; exact below_next (below_next HB24.out hb25) (below_alloc _ _))
      have HW26 := Lib.hid (show Tw w26 g33 T33 by rw [hw26, hg33]; exact Tw.new htd33)
      rw [← hw26, ← hg33]
      clear hw26 hg33
      clear htd33 hb25 HT24 HO24 HB24 C29
      have C31 := HO26.out.box.cell
      have C33 := HW26.out.box.cell
      have t1 : (b2 != b2) = false := by simp
      go_wp2_with fail
      refine (vTables_m HO26.out.td HW26.out.td (HD33.out.trans HD31.out.symm) (HE33.out.trans HE31.out.symm)).mono ?_
      rintro e w27 ⟨rfl, hb27⟩
      have HB27 := Lib.hid (below_next HB26.out hb27)
      clear hb27 HO26 HW26 HB26 C31 C33 t1 HD31 HE31 HD33 HE33 HM2 HMB2
      go_wp2_with fail
      refine (DrawTranslate_any A n ca _ ((HC.out.keep HB27.out).code HN.out)).mono ?_
      rintro e w28 ⟨T35, p3, b3, rfl, hp3, hsm3, S3⟩
      go_upto_region 32 with (fail)
      obtain ⟨w29, hw29⟩ : ∃ x, x = w28.alloc (.cells #[.slice T35.Ad T35.D.length T35.cd, .slice T35.Al T35.L.length T35.cl] 27) := ⟨_, rfl⟩
      obtain ⟨g35, hg35⟩ : ∃ x, x = w28.heap.size := ⟨_, rfl⟩
      have HB29 := Lib.hid (show Below w.heap.size w w29 by rw [hw29]; exact below_next (below_next HB27.out S3.bel) (below_alloc _ _))
      have HT29 := Lib.hid (show Tw w29 g35 T35 by rw [hw29, hg35]; exact Tw.new (td_sep hsm3 S3))
      rw [← hw29, ← hg35]
      clear hw29 hg35
      clear S3 hsm3 HB27
      obtain ⟨⟨x4, y4⟩, h4⟩ : ∃ x, trR T35.D T35.E p3 b3 = x := ⟨_, rfl⟩
      obtain ⟨b4, hb4⟩ : ∃ b4, pageOk T35.D T35.E p3 = b4 := ⟨_, rfl⟩
      have HTR4 := Lib.hid h4
      have HP4 := Lib.hid hb4
      clear h4 hb4
      have C35 := HT29.out.box.cell
      go_wp2_with fail
      refine (i_Translate_m HT29.out.td HTR4.out HP4.out).mono ?_
      rintro e w30 ⟨rfl, hb30⟩
      have HT30 := Lib.hid (HT29.out.keep hb30)
      have HB30 := Lib.hid (below_next HB29.out hb30)
      clear hb30 HT29 HB29 C35
      have C35 := HT30.out.box.cell
      go_wp2_with fail
      refine (s_Translate_m HT30.out.td HTR4.out HP4.out).mono ?_
      rintro e w31 ⟨rfl, hb31⟩
      have HB31 := Lib.hid (below_next HB30.out hb31)
      clear hb31 HT30 HB30 C35
      have e1 : (x4 == x4) = true := by simp
      have e2 : (y4 == y4) = true := by simp
      cases b4
      · go_wp2
        go_ret
        exact ⟨rfl, HB31.out⟩
      · have e3 : ((x4 == -1) == (y4 != 0)) = true := tr_fin HP4.out HTR4.out
        go_wp2
        go_ret
        exact ⟨rfl, HB31.out⟩
end Go.Proofs.Ytaaocnfbbajphaa
