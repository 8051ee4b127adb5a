/- The walk of the law FnExactTableOf through its contracts. FnExactTableOf returns true for all arguments. No conditions. -/
import Derived.Test.YtkgpdiajnjekcaaTd4
namespace Go.Proofs.Ytkgpdiajnjekcaa
open Go.RowKit
set_option linter.unusedVariables false
set_option linter.unusedSimpArgs false

set_option maxRecDepth 100000 in
set_option maxHeartbeats 4000000 in
theorem walk_FnExactTableOf (Aps : Option Addr) (nps cps : Nat) (ps : List Int) (Afs : Option Addr) (nfs cfs : Nat) (fs : List Int) (w : World) (rAps : Rd w 1 Aps nps (I ps)) (_ : ∀ x ∈ ps, (Lit.int .i64 x).wf = true) (rAfs : Rd w 1 Afs nfs (I fs)) (_ : ∀ x ∈ fs, (Lit.int .i64 x).wf = true) :
    Calls Try.prog 6 #[.slice Aps nps cps, .slice Afs nfs cfs] w fun e w' => e = .returned (.bool true) ∧ Below w.heap.size w w' := by
  have hlps := rAps.len
  by_cases hnps : nps ≤ 1048576
  rotate_left
  · have hzps : (1048576 : Int) < (nps : Int) := by omega
    go_enter Try.func6, Try.ntmps6
    go_wp2
    go_ret
    exact ⟨rfl, Below.refl _ _⟩
  have hzps : ¬ (1048576 : Int) < (nps : Int) := by omega
  have HLps := Lib.hid hlps
  clear hlps
  have hlfs := rAfs.len
  by_cases hnfs : nfs ≤ 1048576
  rotate_left
  · have hzfs : (1048576 : Int) < (nfs : Int) := by omega
    go_enter Try.func6, Try.ntmps6
    go_wp2
    go_ret
    exact ⟨rfl, Below.refl _ _⟩
  have hzfs : ¬ (1048576 : Int) < (nfs : Int) := by omega
  have HLfs := Lib.hid hlfs
  clear hlfs
  go_enter Try.func6, Try.ntmps6
  have HS0 := Lib.hid (GS.start w)
  go_wp2_with fail
  refine (toIntS_any Aps nps cps ps _ (rAps.keep HS0.out.bel) (by omega)).mono ?_
  rintro e w1 ⟨A1, c1, rfl, ho1, hb1⟩
  have S1 := HS0.out.new (sep_one hb1 ho1)
  try simp only [List.nil_append, List.cons_append, List.set_cons_zero, List.set_cons_succ] at S1
  have HS1 := Lib.hid S1
  clear S1
  clear HS0
  clear ho1 hb1
  go_wp2_with fail
  refine (toIntS_any Afs nfs cfs fs _ (rAfs.keep HS1.out.bel) (by omega)).mono ?_
  rintro e w2 ⟨A2, c2, rfl, ho2, hb2⟩
  have S2 := HS1.out.new (sep_one hb2 ho2)
  try simp only [List.nil_append, List.cons_append, List.set_cons_zero, List.set_cons_succ] at S2
  have HS2 := Lib.hid S2
  clear S2
  clear HS1
  clear ho2 hb2
  go_wp2_with fail
  refine (s_TableOf_any A1 nps c1 ps A2 nfs c2 fs _ (HS2.out.rd 0 rfl) (by omega) (HS2.out.rd 1 rfl) (by omega)).mono ?_
  rintro e w3 ⟨T3, rfl, hD3, hE3, BT3, R3⟩
  have HDT3 := Lib.hid hD3
  have HET3 := Lib.hid hE3
  have S3 := HS2.out.new R3
  try simp only [List.nil_append, List.cons_append, List.set_cons_zero, List.set_cons_succ] at S3
  have HS3 := Lib.hid S3
  clear S3
  clear HS2
  clear R3 hD3 hE3
  have S4 := GS.new HS3.out (sep_one (below_alloc _ _) (own_bx _ 27 2 #[.slice T3.Ad T3.D.length T3.cd, .slice T3.Al T3.L.length T3.cl] rfl))
  try simp only [List.nil_append, List.cons_append, List.set_cons_zero, List.set_cons_succ] at S4
  have HS4 := Lib.hid S4
  clear S4
  have Cbw := own_box (GS.own HS4.out 3 rfl)
  have Zbw := own_lt (GS.own HS4.out 3 rfl)
  clear HS3
  go_wp2_with fail
  refine (toIntS_any Aps nps cps ps _ (rAps.keep HS4.out.bel) (by omega)).mono ?_
  rintro e w5 ⟨A5, c5, rfl, ho5, hb5⟩
  have S5 := HS4.out.new (sep_one hb5 ho5)
  try simp only [List.nil_append, List.cons_append, List.set_cons_zero, List.set_cons_succ] at S5
  have HS5 := Lib.hid S5
  clear S5
  clear Cbw Zbw
  have Cbw := own_box (GS.own HS5.out 3 rfl)
  have Zbw := own_lt (GS.own HS5.out 3 rfl)
  clear HS4
  clear ho5 hb5
  go_wp2_with fail
  refine (toIntS_any Afs nfs cfs fs _ (rAfs.keep HS5.out.bel) (by omega)).mono ?_
  rintro e w6 ⟨A6, c6, rfl, ho6, hb6⟩
  have S6 := HS5.out.new (sep_one hb6 ho6)
  try simp only [List.nil_append, List.cons_append, List.set_cons_zero, List.set_cons_succ] at S6
  have HS6 := Lib.hid S6
  clear S6
  clear Cbw Zbw
  have Cbw := own_box (GS.own HS6.out 3 rfl)
  have Zbw := own_lt (GS.own HS6.out 3 rfl)
  clear HS5
  clear ho6 hb6
  go_wp2_with fail
  refine (i_TableOf_any A5 nps c5 ps A6 nfs c6 fs _ (HS6.out.rd 4 rfl) (by omega) (HS6.out.rd 5 rfl) (by omega)).mono ?_
  rintro e w7 ⟨T7, rfl, hD7, hE7, BT7, R7⟩
  have HDT7 := Lib.hid hD7
  have HET7 := Lib.hid hE7
  have S7 := HS6.out.new R7
  try simp only [List.nil_append, List.cons_append, List.set_cons_zero, List.set_cons_succ] at S7
  have HS7 := Lib.hid S7
  clear S7
  clear Cbw Zbw
  have Cbw := own_box (GS.own HS7.out 3 rfl)
  have Zbw := own_lt (GS.own HS7.out 3 rfl)
  clear HS6
  clear R7 hD7 hE7
  have S8 := GS.new HS7.out (sep_one (below_alloc _ _) (own_bx _ 27 2 #[.slice T7.Ad T7.D.length T7.cd, .slice T7.Al T7.L.length T7.cl] rfl))
  try simp only [List.nil_append, List.cons_append, List.set_cons_zero, List.set_cons_succ] at S8
  have HS8 := Lib.hid S8
  clear S8
  clear Cbw Zbw
  have Cbw := own_box (GS.own HS8.out 3 rfl)
  have Zbw := own_lt (GS.own HS8.out 3 rfl)
  have Cbg := own_box (GS.own HS8.out 7 rfl)
  have Zbg := own_lt (GS.own HS8.out 7 rfl)
  clear HS7
  go_wp2_with fail
  refine (eqTable_same T7 T3 _ (HS8.out.rdT 6 rfl) (HS8.out.rdT 2 rfl) (by rw [HDT7.out, HDT3.out]) (by rw [HET7.out, HET3.out]) BT7.d BT7.n BT7.l).mono ?_
  rintro e w9 ⟨rfl, hb9⟩
  have S9 := (HS8.out).below hb9
  try simp only [List.nil_append, List.cons_append, List.set_cons_zero, List.set_cons_succ] at S9
  have HS9 := Lib.hid S9
  clear S9
  clear Cbw Zbw
  have Cbw := own_box (GS.own HS9.out 3 rfl)
  have Zbw := own_lt (GS.own HS9.out 3 rfl)
  clear Cbg Zbg
  have Cbg := own_box (GS.own HS9.out 7 rfl)
  have Zbg := own_lt (GS.own HS9.out 7 rfl)
  clear HS8
  clear hb9
  go_wp2_with fail
  refine (toIntS_any Aps nps cps ps _ (rAps.keep HS9.out.bel) (by omega)).mono ?_
  rintro e w10 ⟨A10, c10, rfl, ho10, hb10⟩
  have S10 := HS9.out.new (sep_one hb10 ho10)
  try simp only [List.nil_append, List.cons_append, List.set_cons_zero, List.set_cons_succ] at S10
  have HS10 := Lib.hid S10
  clear S10
  clear Cbw Zbw
  have Cbw := own_box (GS.own HS10.out 3 rfl)
  have Zbw := own_lt (GS.own HS10.out 3 rfl)
  clear Cbg Zbg
  have Cbg := own_box (GS.own HS10.out 7 rfl)
  have Zbg := own_lt (GS.own HS10.out 7 rfl)
  clear HS9
  clear ho10 hb10
  go_wp2_with fail
  refine (eqIntS_same A5 A10 nps c5 c10 ps _ (HS10.out.rd 4 rfl) (HS10.out.rd 8 rfl) (by omega)).mono ?_
  rintro e w11 ⟨rfl, hb11⟩
  have S11 := (HS10.out).below hb11
  try simp only [List.nil_append, List.cons_append, List.set_cons_zero, List.set_cons_succ] at S11
  have HS11 := Lib.hid S11
  clear S11
  clear Cbw Zbw
  have Cbw := own_box (GS.own HS11.out 3 rfl)
  have Zbw := own_lt (GS.own HS11.out 3 rfl)
  clear Cbg Zbg
  have Cbg := own_box (GS.own HS11.out 7 rfl)
  have Zbg := own_lt (GS.own HS11.out 7 rfl)
  clear HS10
  clear hb11
  go_wp2_with fail
  refine (toIntS_any Afs nfs cfs fs _ (rAfs.keep HS11.out.bel) (by omega)).mono ?_
  rintro e w12 ⟨A12, c12, rfl, ho12, hb12⟩
  have S12 := HS11.out.new (sep_one hb12 ho12)
  try simp only [List.nil_append, List.cons_append, List.set_cons_zero, List.set_cons_succ] at S12
  have HS12 := Lib.hid S12
  clear S12
  clear Cbw Zbw
  have Cbw := own_box (GS.own HS12.out 3 rfl)
  have Zbw := own_lt (GS.own HS12.out 3 rfl)
  clear Cbg Zbg
  have Cbg := own_box (GS.own HS12.out 7 rfl)
  have Zbg := own_lt (GS.own HS12.out 7 rfl)
  clear HS11
  clear ho12 hb12
  go_wp2_with fail
  refine (eqIntS_same A6 A12 nfs c6 c12 fs _ (HS12.out.rd 5 rfl) (HS12.out.rd 9 rfl) (by omega)).mono ?_
  rintro e w13 ⟨rfl, hb13⟩
  have S13 := (HS12.out).below hb13
  try simp only [List.nil_append, List.cons_append, List.set_cons_zero, List.set_cons_succ] at S13
  have HS13 := Lib.hid S13
  clear S13
  clear Cbw Zbw
  have Cbw := own_box (GS.own HS13.out 3 rfl)
  have Zbw := own_lt (GS.own HS13.out 3 rfl)
  clear Cbg Zbg
  have Cbg := own_box (GS.own HS13.out 7 rfl)
  have Zbg := own_lt (GS.own HS13.out 7 rfl)
  clear HS12
  clear hb13
  go_wp2_with fail
  refine (markIntS_any A5 nps c5 _ ps 1 _ (HS13.out.own 4 rfl) (by omega) (by omega) (by omega)).mono ?_
  rintro e w14 ⟨rfl, ho14, hg14⟩
  have S14 := HS13.out.put 4 rfl hg14 _ ho14
  try simp only [List.nil_append, List.cons_append, List.set_cons_zero, List.set_cons_succ] at S14
  have HS14 := Lib.hid S14
  clear S14
  clear Cbw Zbw
  have Cbw := own_box (GS.own HS14.out 3 rfl)
  have Zbw := own_lt (GS.own HS14.out 3 rfl)
  clear Cbg Zbg
  have Cbg := own_box (GS.own HS14.out 7 rfl)
  have Zbg := own_lt (GS.own HS14.out 7 rfl)
  clear HS13
  clear ho14 hg14
  go_wp2_with fail
  refine (markIntS_any A6 nfs c6 _ fs (1 + ((nps : Nat) : Int)) _ (HS14.out.own 5 rfl) (by omega) (by omega) (by omega)).mono ?_
  rintro e w15 ⟨rfl, ho15, hg15⟩
  have S15 := HS14.out.put 5 rfl hg15 _ ho15
  try simp only [List.nil_append, List.cons_append, List.set_cons_zero, List.set_cons_succ] at S15
  have HS15 := Lib.hid S15
  clear S15
  clear Cbw Zbw
  have Cbw := own_box (GS.own HS15.out 3 rfl)
  have Zbw := own_lt (GS.own HS15.out 3 rfl)
  clear Cbg Zbg
  have Cbg := own_box (GS.own HS15.out 7 rfl)
  have Zbg := own_lt (GS.own HS15.out 7 rfl)
  clear HS14
  clear ho15 hg15
  go_wp2_with fail
  refine (eqTable_same T7 T3 _ (HS15.out.rdT 6 rfl) (HS15.out.rdT 2 rfl) (by rw [HDT7.out, HDT3.out]) (by rw [HET7.out, HET3.out]) BT7.d BT7.n BT7.l).mono ?_
  rintro e w16 ⟨rfl, hb16⟩
  have S16 := (HS15.out).below hb16
  try simp only [List.nil_append, List.cons_append, List.set_cons_zero, List.set_cons_succ] at S16
  have HS16 := Lib.hid S16
  clear S16
  clear Cbw Zbw
  have Cbw := own_box (GS.own HS16.out 3 rfl)
  have Zbw := own_lt (GS.own HS16.out 3 rfl)
  clear Cbg Zbg
  have Cbg := own_box (GS.own HS16.out 7 rfl)
  have Zbg := own_lt (GS.own HS16.out 7 rfl)
  clear HS15
  clear hb16
  go_wp2_with fail
  obtain ⟨P17, Q17, SP17, SQ17⟩ := HS16.out.open_ 6 (g := T7.things) rfl
  refine (markTable_any w P17 Q17 T7 1 _ SP17 BT7.d BT7.n BT7.l BT7.s (by omega) (by omega)).mono ?_
  rintro e w17 ⟨rfl, SM17⟩
  have S17 := SQ17 w17 _ SM17
  try simp only [List.nil_append, List.cons_append, List.set_cons_zero, List.set_cons_succ] at S17
  have HS17 := Lib.hid S17
  clear S17
  clear Cbw Zbw
  have Cbw := own_box (GS.own HS17.out 3 rfl)
  have Zbw := own_lt (GS.own HS17.out 3 rfl)
  clear Cbg Zbg
  have Cbg := own_box (GS.own HS17.out 7 rfl)
  have Zbg := own_lt (GS.own HS17.out 7 rfl)
  clear HS16
  clear SP17 SQ17 SM17
  have hm17 := nxT_bd BT7 (m := 1) (by omega) (by omega)
  have hmn17 : ¬ nxT 1 T7 < 0 := by omega
  go_wp2_with fail
  refine (heldTable_marks T7 1 _ (HS17.out.rdT 6 rfl) BT7.d BT7.n BT7.l BT7.s (by omega) (by omega)).mono ?_
  rintro e w18 ⟨rfl, hb18⟩
  have S18 := (HS17.out).below hb18
  try simp only [List.nil_append, List.cons_append, List.set_cons_zero, List.set_cons_succ] at S18
  have HS18 := Lib.hid S18
  clear S18
  clear Cbw Zbw
  have Cbw := own_box (GS.own HS18.out 3 rfl)
  have Zbw := own_lt (GS.own HS18.out 3 rfl)
  clear Cbg Zbg
  have Cbg := own_box (GS.own HS18.out 7 rfl)
  have Zbg := own_lt (GS.own HS18.out 7 rfl)
  clear HS17
  clear hb18
  go_wp2_with fail
  refine (toIntS_any Aps nps cps ps _ (rAps.keep HS18.out.bel) (by omega)).mono ?_
  rintro e w19 ⟨A19, c19, rfl, ho19, hb19⟩
  have S19 := HS18.out.new (sep_one hb19 ho19)
  try simp only [List.nil_append, List.cons_append, List.set_cons_zero, List.set_cons_succ] at S19
  have HS19 := Lib.hid S19
  clear S19
  clear Cbw Zbw
  have Cbw := own_box (GS.own HS19.out 3 rfl)
  have Zbw := own_lt (GS.own HS19.out 3 rfl)
  clear Cbg Zbg
  have Cbg := own_box (GS.own HS19.out 7 rfl)
  have Zbg := own_lt (GS.own HS19.out 7 rfl)
  clear HS18
  clear ho19 hb19
  go_wp2_with fail
  refine (toIntS_any Afs nfs cfs fs _ (rAfs.keep HS19.out.bel) (by omega)).mono ?_
  rintro e w20 ⟨A20, c20, rfl, ho20, hb20⟩
  have S20 := HS19.out.new (sep_one hb20 ho20)
  try simp only [List.nil_append, List.cons_append, List.set_cons_zero, List.set_cons_succ] at S20
  have HS20 := Lib.hid S20
  clear S20
  clear Cbw Zbw
  have Cbw := own_box (GS.own HS20.out 3 rfl)
  have Zbw := own_lt (GS.own HS20.out 3 rfl)
  clear Cbg Zbg
  have Cbg := own_box (GS.own HS20.out 7 rfl)
  have Zbg := own_lt (GS.own HS20.out 7 rfl)
  clear HS19
  clear ho20 hb20
  go_wp2_with fail
  refine (i_TableOf_any A19 nps c19 ps A20 nfs c20 fs _ (HS20.out.rd 10 rfl) (by omega) (HS20.out.rd 11 rfl) (by omega)).mono ?_
  rintro e w21 ⟨T21, rfl, hD21, hE21, BT21, R21⟩
  have HDT21 := Lib.hid hD21
  have HET21 := Lib.hid hE21
  have S21 := HS20.out.new R21
  try simp only [List.nil_append, List.cons_append, List.set_cons_zero, List.set_cons_succ] at S21
  have HS21 := Lib.hid S21
  clear S21
  clear Cbw Zbw
  have Cbw := own_box (GS.own HS21.out 3 rfl)
  have Zbw := own_lt (GS.own HS21.out 3 rfl)
  clear Cbg Zbg
  have Cbg := own_box (GS.own HS21.out 7 rfl)
  have Zbg := own_lt (GS.own HS21.out 7 rfl)
  clear HS20
  clear R21 hD21 hE21
  have S22 := GS.new HS21.out (sep_one (below_alloc _ _) (own_bx _ 27 2 #[.slice T21.Ad T21.D.length T21.cd, .slice T21.Al T21.L.length T21.cl] rfl))
  try simp only [List.nil_append, List.cons_append, List.set_cons_zero, List.set_cons_succ] at S22
  have HS22 := Lib.hid S22
  clear S22
  clear Cbw Zbw
  have Cbw := own_box (GS.own HS22.out 3 rfl)
  have Zbw := own_lt (GS.own HS22.out 3 rfl)
  clear Cbg Zbg
  have Cbg := own_box (GS.own HS22.out 7 rfl)
  have Zbg := own_lt (GS.own HS22.out 7 rfl)
  have Cbh := own_box (GS.own HS22.out 13 rfl)
  have Zbh := own_lt (GS.own HS22.out 13 rfl)
  clear HS21
  go_wp2_with fail
  refine (eqTable_same T21 T3 _ (HS22.out.rdT 12 rfl) (HS22.out.rdT 2 rfl) (by rw [HDT21.out, HDT3.out]) (by rw [HET21.out, HET3.out]) BT21.d BT21.n BT21.l).mono ?_
  rintro e w23 ⟨rfl, hb23⟩
  have S23 := (HS22.out).below hb23
  try simp only [List.nil_append, List.cons_append, List.set_cons_zero, List.set_cons_succ] at S23
  have HS23 := Lib.hid S23
  clear S23
  clear Cbw Zbw
  have Cbw := own_box (GS.own HS23.out 3 rfl)
  have Zbw := own_lt (GS.own HS23.out 3 rfl)
  clear Cbg Zbg
  have Cbg := own_box (GS.own HS23.out 7 rfl)
  have Zbg := own_lt (GS.own HS23.out 7 rfl)
  clear Cbh Zbh
  have Cbh := own_box (GS.own HS23.out 13 rfl)
  have Zbh := own_lt (GS.own HS23.out 13 rfl)
  clear HS22
  clear hb23
  go_wp2_with fail
  refine (heldTable_marks T7 1 _ (HS23.out.rdT 6 rfl) BT7.d BT7.n BT7.l BT7.s (by omega) (by omega)).mono ?_
  rintro e w24 ⟨rfl, hb24⟩
  have S24 := (HS23.out).below hb24
  try simp only [List.nil_append, List.cons_append, List.set_cons_zero, List.set_cons_succ] at S24
  have HS24 := Lib.hid S24
  clear S24
  clear Cbw Zbw
  have Cbw := own_box (GS.own HS24.out 3 rfl)
  have Zbw := own_lt (GS.own HS24.out 3 rfl)
  clear Cbg Zbg
  have Cbg := own_box (GS.own HS24.out 7 rfl)
  have Zbg := own_lt (GS.own HS24.out 7 rfl)
  clear Cbh Zbh
  have Cbh := own_box (GS.own HS24.out 13 rfl)
  have Zbh := own_lt (GS.own HS24.out 13 rfl)
  clear HS23
  clear hb24
  go_wp2
  go_ret
  exact ⟨rfl, HS24.out.bel⟩

end Go.Proofs.Ytkgpdiajnjekcaa
