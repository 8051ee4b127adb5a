/- The walk of the law FnExactUnmapPage through its contracts. FnExactUnmapPage returns true for all arguments. No conditions. -/
import Derived.Test.YtkgpdiajnjekcaaTh4
import Derived.Test.YtkgpdiajnjekcaaOpTab
namespace Go.Proofs.Ytkgpdiajnjekcaa
open Go.RowKit
set_option linter.unusedVariables false
set_option linter.unusedSimpArgs false

set_option maxRecDepth 100000 in
set_option maxHeartbeats 4000000 in
theorem walk_FnExactUnmapPage (T : Tab) (p : Int) (w : World) (rT : RdT w T) (hcapT : T.D.length ≤ T.cd ∧ T.cd ≤ maxLen) (hLT : T.L.length ≤ maxLen) (hET : ∀ l ∈ T.L, l.es.length ≤ maxLen) (wfp : (Lit.int .i64 p).wf = true) :
    Calls Try.prog 13 #[tabV T, .int .i64 p] w fun e w' => e = .returned (.bool true) ∧ Below w.heap.size w w' := by
  have hdT : T.D.length ≤ maxLen := Nat.le_trans hcapT.1 hcapT.2
  unfold maxLen at hLT hET hdT
  have HEET := Lib.hid hET
  have HCAPT := Lib.hid hcapT
  clear hET hcapT
  by_cases hszT : lessT 1048576 T < 0
  · go_enter Try.func13, Try.ntmps13
    go_wp2_with fail
    refine (szTable_eq T _ (rT.keep (below_alloc _ _)) hdT hLT HEET.out _ rfl).mono ?_
    rintro e w1 ⟨rfl, hb⟩
    go_wp2
    go_ret
    exact ⟨rfl, below_next (below_alloc _ _) hb⟩
  have BT : Bd T := Bd.of_sz (by omega)
  go_enter Try.func13, Try.ntmps13
  have S1 := GS.new (GS.start w) (sep_one (below_alloc _ _) (own_bx _ 43 2 #[.slice T.Ad T.D.length T.cd, .slice T.Al T.L.length T.cl] rfl))
  try simp only [List.nil_append, List.cons_append, List.set_cons_zero, List.set_cons_succ] at S1
  have HS1 := Lib.hid S1
  clear S1
  have CaT := own_box (GS.own HS1.out 0 rfl)
  have ZaT := own_lt (GS.own HS1.out 0 rfl)
  go_wp2_with fail
  refine (szTable_eq T _ (rT.keep (below_alloc _ _)) hdT hLT HEET.out _ rfl).mono ?_
  rintro e w2 ⟨rfl, hb2⟩
  have S2 := (HS1.out).below hb2
  try simp only [List.nil_append, List.cons_append, List.set_cons_zero, List.set_cons_succ] at S2
  have HS2 := Lib.hid S2
  clear S2
  clear CaT ZaT
  have CaT := own_box (GS.own HS2.out 0 rfl)
  have ZaT := own_lt (GS.own HS2.out 0 rfl)
  clear HS1
  clear hb2
  go_wp2_with fail
  refine (toTable_any T _ (rT.keep HS2.out.bel) BT.d BT.n BT.l).mono ?_
  rintro e w3 ⟨T3, rfl, hD3, hE3, R3⟩
  have BT3 := BT.of_eq hD3 hE3
  have HDT3 := Lib.hid hD3
  have HET3 := Lib.hid hE3
  have S3 := HS2.out.new R3
  try simp only [List.nil_append, List.cons_append, List.set_cons_zero, List.set_cons_succ] at S3
  have HS3 := Lib.hid S3
  clear S3
  clear CaT ZaT
  have CaT := own_box (GS.own HS3.out 0 rfl)
  have ZaT := own_lt (GS.own HS3.out 0 rfl)
  clear HS2
  clear R3 hD3 hE3
  go_wp2_with fail
  refine (s_UnmapPage_any T3 p _ (HS3.out.rdT 1 rfl) BT3 (HS3.out.cap 1 rfl) T.D T.E HDT3.out HET3.out).mono ?_
  rintro e w4 ⟨T4, rfl, hD4, hE4, BT4, R4⟩
  have HDT4 := Lib.hid hD4
  have HET4 := Lib.hid hE4
  have S4 := HS3.out.new R4
  try simp only [List.nil_append, List.cons_append, List.set_cons_zero, List.set_cons_succ] at S4
  have HS4 := Lib.hid S4
  clear S4
  clear CaT ZaT
  have CaT := own_box (GS.own HS4.out 0 rfl)
  have ZaT := own_lt (GS.own HS4.out 0 rfl)
  clear HS3
  clear R4 hD4 hE4
  have S5 := GS.new HS4.out (sep_one (below_alloc _ _) (own_bx _ 27 2 #[.slice T4.Ad T4.D.length T4.cd, .slice T4.Al T4.L.length T4.cl] rfl))
  try simp only [List.nil_append, List.cons_append, List.set_cons_zero, List.set_cons_succ] at S5
  have HS5 := Lib.hid S5
  clear S5
  clear CaT ZaT
  have CaT := own_box (GS.own HS5.out 0 rfl)
  have ZaT := own_lt (GS.own HS5.out 0 rfl)
  have Cbw := own_box (GS.own HS5.out 3 rfl)
  have Zbw := own_lt (GS.own HS5.out 3 rfl)
  clear HS4
  go_wp2_with fail
  refine (toTable_any T _ (rT.keep HS5.out.bel) BT.d BT.n BT.l).mono ?_
  rintro e w6 ⟨T6, rfl, hD6, hE6, R6⟩
  have BT6 := BT.of_eq hD6 hE6
  have HDT6 := Lib.hid hD6
  have HET6 := Lib.hid hE6
  have S6 := HS5.out.new R6
  try simp only [List.nil_append, List.cons_append, List.set_cons_zero, List.set_cons_succ] at S6
  have HS6 := Lib.hid S6
  clear S6
  clear CaT ZaT
  have CaT := own_box (GS.own HS6.out 0 rfl)
  have ZaT := own_lt (GS.own HS6.out 0 rfl)
  clear Cbw Zbw
  have Cbw := own_box (GS.own HS6.out 3 rfl)
  have Zbw := own_lt (GS.own HS6.out 3 rfl)
  clear HS5
  clear R6 hD6 hE6
  have S7 := GS.new HS6.out (sep_one (below_alloc _ _) (own_bx _ 27 2 #[.slice T6.Ad T6.D.length T6.cd, .slice T6.Al T6.L.length T6.cl] rfl))
  try simp only [List.nil_append, List.cons_append, List.set_cons_zero, List.set_cons_succ] at S7
  have HS7 := Lib.hid S7
  clear S7
  clear CaT ZaT
  have CaT := own_box (GS.own HS7.out 0 rfl)
  have ZaT := own_lt (GS.own HS7.out 0 rfl)
  clear Cbw Zbw
  have Cbw := own_box (GS.own HS7.out 3 rfl)
  have Zbw := own_lt (GS.own HS7.out 3 rfl)
  have CxT := own_box (GS.own HS7.out 5 rfl)
  have ZxT := own_lt (GS.own HS7.out 5 rfl)
  clear HS6
  go_wp2_with fail
  refine (i_UnmapPage_any T6 p _ (HS7.out.rdT 4 rfl) BT6 (HS7.out.cap 4 rfl) T.D T.E HDT6.out HET6.out).mono ?_
  rintro e w8 ⟨T8, rfl, hD8, hE8, BT8, R8⟩
  have HDT8 := Lib.hid hD8
  have HET8 := Lib.hid hE8
  have S8 := HS7.out.new R8
  try simp only [List.nil_append, List.cons_append, List.set_cons_zero, List.set_cons_succ] at S8
  have HS8 := Lib.hid S8
  clear S8
  clear CaT ZaT
  have CaT := own_box (GS.own HS8.out 0 rfl)
  have ZaT := own_lt (GS.own HS8.out 0 rfl)
  clear Cbw Zbw
  have Cbw := own_box (GS.own HS8.out 3 rfl)
  have Zbw := own_lt (GS.own HS8.out 3 rfl)
  clear CxT ZxT
  have CxT := own_box (GS.own HS8.out 5 rfl)
  have ZxT := own_lt (GS.own HS8.out 5 rfl)
  clear HS7
  clear R8 hD8 hE8
  have S9 := GS.new HS8.out (sep_one (below_alloc _ _) (own_bx _ 27 2 #[.slice T8.Ad T8.D.length T8.cd, .slice T8.Al T8.L.length T8.cl] rfl))
  try simp only [List.nil_append, List.cons_append, List.set_cons_zero, List.set_cons_succ] at S9
  have HS9 := Lib.hid S9
  clear S9
  clear CaT ZaT
  have CaT := own_box (GS.own HS9.out 0 rfl)
  have ZaT := own_lt (GS.own HS9.out 0 rfl)
  clear Cbw Zbw
  have Cbw := own_box (GS.own HS9.out 3 rfl)
  have Zbw := own_lt (GS.own HS9.out 3 rfl)
  clear CxT ZxT
  have CxT := own_box (GS.own HS9.out 5 rfl)
  have ZxT := own_lt (GS.own HS9.out 5 rfl)
  have Cbg := own_box (GS.own HS9.out 7 rfl)
  have Zbg := own_lt (GS.own HS9.out 7 rfl)
  clear HS8
  go_wp2_with fail
  refine (eqTable_same T8 T4 _ (HS9.out.rdT 6 rfl) (HS9.out.rdT 2 rfl) (by rw [HDT8.out, HDT4.out]) (by rw [HET8.out, HET4.out]) BT8.d BT8.n BT8.l).mono ?_
  rintro e w10 ⟨rfl, hb10⟩
  have S10 := (HS9.out).below hb10
  try simp only [List.nil_append, List.cons_append, List.set_cons_zero, List.set_cons_succ] at S10
  have HS10 := Lib.hid S10
  clear S10
  clear CaT ZaT
  have CaT := own_box (GS.own HS10.out 0 rfl)
  have ZaT := own_lt (GS.own HS10.out 0 rfl)
  clear Cbw Zbw
  have Cbw := own_box (GS.own HS10.out 3 rfl)
  have Zbw := own_lt (GS.own HS10.out 3 rfl)
  clear CxT ZxT
  have CxT := own_box (GS.own HS10.out 5 rfl)
  have ZxT := own_lt (GS.own HS10.out 5 rfl)
  clear Cbg Zbg
  have Cbg := own_box (GS.own HS10.out 7 rfl)
  have Zbg := own_lt (GS.own HS10.out 7 rfl)
  clear HS9
  clear hb10
  have S11d := (HS10.out).below (Below.drew (Below.refl _ _))
  clear CaT ZaT
  have CaT := own_box (GS.own S11d 0 rfl)
  clear Cbw Zbw
  have Cbw := own_box (GS.own S11d 3 rfl)
  clear CxT ZxT
  have CxT := own_box (GS.own S11d 5 rfl)
  clear Cbg Zbg
  have Cbg := own_box (GS.own S11d 7 rfl)
  clear HS10
  go_wp2_with fail
  go_region_with (first
    | (go_at_call 29; refine (toTable_any T _ (rT.keep S11d.bel) BT.d BT.n BT.l).mono ?_; rintro e w11 ⟨T11, rfl, hD11, hE11, R11⟩; have S11 := GS.new S11d R11; have CaT := own_box (GS.own S11 0 rfl); have Cbw := own_box (GS.own S11 3 rfl); have CxT := own_box (GS.own S11 5 rfl); have Cbg := own_box (GS.own S11 7 rfl); have BT11 := BT.of_eq hD11 hE11; have HDT11 := Lib.hid hD11; have HET11 := Lib.hid hE11; clear hD11 hE11)
    | (go_at_call 30; refine (eqTable_same T6 T11 _ (S11.rdT 4 rfl) (S11.rdT 8 rfl) (by rw [HDT6.out, HDT11.out]) (by rw [HET6.out, HET11.out]) BT6.d BT6.n BT6.l).mono ?_; rintro e w12 ⟨rfl, hb12⟩; have S12 := S11.below hb12))
  all_goals
    have HS12 := Lib.hid S12
    clear S12
    try clear CaT
    try clear CaT
    have CaT := own_box (GS.own HS12.out 0 rfl)
    have ZaT := own_lt (GS.own HS12.out 0 rfl)
    try clear Cbw
    try clear Cbw
    have Cbw := own_box (GS.own HS12.out 3 rfl)
    have Zbw := own_lt (GS.own HS12.out 3 rfl)
    try clear CxT
    try clear CxT
    have CxT := own_box (GS.own HS12.out 5 rfl)
    have ZxT := own_lt (GS.own HS12.out 5 rfl)
    try clear Cbg
    try clear Cbg
    have Cbg := own_box (GS.own HS12.out 7 rfl)
    have Zbg := own_lt (GS.own HS12.out 7 rfl)
    go_wp2_with fail
    obtain ⟨P13, Q13, SP13, SQ13⟩ := HS12.out.open_ 4 (g := T6.things) rfl
    refine (markTable_any w P13 Q13 T6 1 _ SP13 BT6.d BT6.n BT6.l BT6.s (by omega) (by omega)).mono ?_
    rintro e w13 ⟨rfl, SM13⟩
    have S13 := SQ13 w13 _ SM13
    try simp only [List.nil_append, List.cons_append, List.set_cons_zero, List.set_cons_succ] at S13
    have HS13 := Lib.hid S13
    clear S13
    clear CaT ZaT
    have CaT := own_box (GS.own HS13.out 0 rfl)
    have ZaT := own_lt (GS.own HS13.out 0 rfl)
    clear Cbw Zbw
    have Cbw := own_box (GS.own HS13.out 3 rfl)
    have Zbw := own_lt (GS.own HS13.out 3 rfl)
    clear CxT ZxT
    have CxT := own_box (GS.own HS13.out 5 rfl)
    have ZxT := own_lt (GS.own HS13.out 5 rfl)
    clear Cbg Zbg
    have Cbg := own_box (GS.own HS13.out 7 rfl)
    have Zbg := own_lt (GS.own HS13.out 7 rfl)
    clear HS12
    clear SP13 SQ13 SM13
    have hm13 := nxT_bd BT6 (m := 1) (by omega) (by omega)
    have hmn13 : ¬ nxT 1 T6 < 0 := by omega
    go_wp2_with fail
    refine (eqTable_same T8 T4 _ (HS13.out.rdT 6 rfl) (HS13.out.rdT 2 rfl) (by rw [HDT8.out, HDT4.out]) (by rw [HET8.out, HET4.out]) BT8.d BT8.n BT8.l).mono ?_
    rintro e w14 ⟨rfl, hb14⟩
    have S14 := (HS13.out).below hb14
    try simp only [List.nil_append, List.cons_append, List.set_cons_zero, List.set_cons_succ] at S14
    have HS14 := Lib.hid S14
    clear S14
    clear CaT ZaT
    have CaT := own_box (GS.own HS14.out 0 rfl)
    have ZaT := own_lt (GS.own HS14.out 0 rfl)
    clear Cbw Zbw
    have Cbw := own_box (GS.own HS14.out 3 rfl)
    have Zbw := own_lt (GS.own HS14.out 3 rfl)
    clear CxT ZxT
    have CxT := own_box (GS.own HS14.out 5 rfl)
    have ZxT := own_lt (GS.own HS14.out 5 rfl)
    clear Cbg Zbg
    have Cbg := own_box (GS.own HS14.out 7 rfl)
    have Zbg := own_lt (GS.own HS14.out 7 rfl)
    clear HS13
    clear hb14
    go_wp2_with fail
    obtain ⟨P15, Q15, SP15, SQ15⟩ := HS14.out.open_ 6 (g := T8.things) rfl
    refine (markTable_any w P15 Q15 T8 1 _ SP15 BT8.d BT8.n BT8.l BT8.s (by omega) (by omega)).mono ?_
    rintro e w15 ⟨rfl, SM15⟩
    have S15 := SQ15 w15 _ SM15
    try simp only [List.nil_append, List.cons_append, List.set_cons_zero, List.set_cons_succ] at S15
    have HS15 := Lib.hid S15
    clear S15
    clear CaT ZaT
    have CaT := own_box (GS.own HS15.out 0 rfl)
    have ZaT := own_lt (GS.own HS15.out 0 rfl)
    clear Cbw Zbw
    have Cbw := own_box (GS.own HS15.out 3 rfl)
    have Zbw := own_lt (GS.own HS15.out 3 rfl)
    clear CxT ZxT
    have CxT := own_box (GS.own HS15.out 5 rfl)
    have ZxT := own_lt (GS.own HS15.out 5 rfl)
    clear Cbg Zbg
    have Cbg := own_box (GS.own HS15.out 7 rfl)
    have Zbg := own_lt (GS.own HS15.out 7 rfl)
    clear HS14
    clear SP15 SQ15 SM15
    have hm15 := nxT_bd BT8 (m := 1) (by omega) (by omega)
    have hmn15 : ¬ nxT 1 T8 < 0 := by omega
    go_wp2_with fail
    refine (heldTable_marks T8 1 _ (HS15.out.rdT 6 rfl) BT8.d BT8.n BT8.l BT8.s (by omega) (by omega)).mono ?_
    rintro e w16 ⟨rfl, hb16⟩
    have S16 := (HS15.out).below hb16
    try simp only [List.nil_append, List.cons_append, List.set_cons_zero, List.set_cons_succ] at S16
    have HS16 := Lib.hid S16
    clear S16
    clear CaT ZaT
    have CaT := own_box (GS.own HS16.out 0 rfl)
    have ZaT := own_lt (GS.own HS16.out 0 rfl)
    clear Cbw Zbw
    have Cbw := own_box (GS.own HS16.out 3 rfl)
    have Zbw := own_lt (GS.own HS16.out 3 rfl)
    clear CxT ZxT
    have CxT := own_box (GS.own HS16.out 5 rfl)
    have ZxT := own_lt (GS.own HS16.out 5 rfl)
    clear Cbg Zbg
    have Cbg := own_box (GS.own HS16.out 7 rfl)
    have Zbg := own_lt (GS.own HS16.out 7 rfl)
    clear HS15
    clear hb16
    go_wp2_with fail
    refine (toTable_any T _ (rT.keep HS16.out.bel) BT.d BT.n BT.l).mono ?_
    rintro e w17 ⟨T17, rfl, hD17, hE17, R17⟩
    have BT17 := BT.of_eq hD17 hE17
    have HDT17 := Lib.hid hD17
    have HET17 := Lib.hid hE17
    have S17 := HS16.out.new R17
    try simp only [List.nil_append, List.cons_append, List.set_cons_zero, List.set_cons_succ] at S17
    have HS17 := Lib.hid S17
    clear S17
    clear CaT ZaT
    have CaT := own_box (GS.own HS17.out 0 rfl)
    have ZaT := own_lt (GS.own HS17.out 0 rfl)
    clear Cbw Zbw
    have Cbw := own_box (GS.own HS17.out 3 rfl)
    have Zbw := own_lt (GS.own HS17.out 3 rfl)
    clear CxT ZxT
    have CxT := own_box (GS.own HS17.out 5 rfl)
    have ZxT := own_lt (GS.own HS17.out 5 rfl)
    clear Cbg Zbg
    have Cbg := own_box (GS.own HS17.out 7 rfl)
    have Zbg := own_lt (GS.own HS17.out 7 rfl)
    clear HS16
    clear R17 hD17 hE17
    go_wp2_with fail
    refine (i_UnmapPage_any T17 p _ (HS17.out.rdT 9 rfl) BT17 (HS17.out.cap 9 rfl) T.D T.E HDT17.out HET17.out).mono ?_
    rintro e w18 ⟨T18, rfl, hD18, hE18, BT18, R18⟩
    have HDT18 := Lib.hid hD18
    have HET18 := Lib.hid hE18
    have S18 := HS17.out.new R18
    try simp only [List.nil_append, List.cons_append, List.set_cons_zero, List.set_cons_succ] at S18
    have HS18 := Lib.hid S18
    clear S18
    clear CaT ZaT
    have CaT := own_box (GS.own HS18.out 0 rfl)
    have ZaT := own_lt (GS.own HS18.out 0 rfl)
    clear Cbw Zbw
    have Cbw := own_box (GS.own HS18.out 3 rfl)
    have Zbw := own_lt (GS.own HS18.out 3 rfl)
    clear CxT ZxT
    have CxT := own_box (GS.own HS18.out 5 rfl)
    have ZxT := own_lt (GS.own HS18.out 5 rfl)
    clear Cbg Zbg
    have Cbg := own_box (GS.own HS18.out 7 rfl)
    have Zbg := own_lt (GS.own HS18.out 7 rfl)
    clear HS17
    clear R18 hD18 hE18
    have S19 := GS.new HS18.out (sep_one (below_alloc _ _) (own_bx _ 27 2 #[.slice T18.Ad T18.D.length T18.cd, .slice T18.Al T18.L.length T18.cl] rfl))
    try simp only [List.nil_append, List.cons_append, List.set_cons_zero, List.set_cons_succ] at S19
    have HS19 := Lib.hid S19
    clear S19
    clear CaT ZaT
    have CaT := own_box (GS.own HS19.out 0 rfl)
    have ZaT := own_lt (GS.own HS19.out 0 rfl)
    clear Cbw Zbw
    have Cbw := own_box (GS.own HS19.out 3 rfl)
    have Zbw := own_lt (GS.own HS19.out 3 rfl)
    clear CxT ZxT
    have CxT := own_box (GS.own HS19.out 5 rfl)
    have ZxT := own_lt (GS.own HS19.out 5 rfl)
    clear Cbg Zbg
    have Cbg := own_box (GS.own HS19.out 7 rfl)
    have Zbg := own_lt (GS.own HS19.out 7 rfl)
    have Cbh := own_box (GS.own HS19.out 11 rfl)
    have Zbh := own_lt (GS.own HS19.out 11 rfl)
    clear HS18
    go_wp2_with fail
    refine (eqTable_same T18 T4 _ (HS19.out.rdT 10 rfl) (HS19.out.rdT 2 rfl) (by rw [HDT18.out, HDT4.out]) (by rw [HET18.out, HET4.out]) BT18.d BT18.n BT18.l).mono ?_
    rintro e w20 ⟨rfl, hb20⟩
    have S20 := (HS19.out).below hb20
    try simp only [List.nil_append, List.cons_append, List.set_cons_zero, List.set_cons_succ] at S20
    have HS20 := Lib.hid S20
    clear S20
    clear CaT ZaT
    have CaT := own_box (GS.own HS20.out 0 rfl)
    have ZaT := own_lt (GS.own HS20.out 0 rfl)
    clear Cbw Zbw
    have Cbw := own_box (GS.own HS20.out 3 rfl)
    have Zbw := own_lt (GS.own HS20.out 3 rfl)
    clear CxT ZxT
    have CxT := own_box (GS.own HS20.out 5 rfl)
    have ZxT := own_lt (GS.own HS20.out 5 rfl)
    clear Cbg Zbg
    have Cbg := own_box (GS.own HS20.out 7 rfl)
    have Zbg := own_lt (GS.own HS20.out 7 rfl)
    clear Cbh Zbh
    have Cbh := own_box (GS.own HS20.out 11 rfl)
    have Zbh := own_lt (GS.own HS20.out 11 rfl)
    clear HS19
    clear hb20
    go_wp2_with fail
    refine (heldTable_marks T8 1 _ (HS20.out.rdT 6 rfl) BT8.d BT8.n BT8.l BT8.s (by omega) (by omega)).mono ?_
    rintro e w21 ⟨rfl, hb21⟩
    have S21 := (HS20.out).below hb21
    try simp only [List.nil_append, List.cons_append, List.set_cons_zero, List.set_cons_succ] at S21
    have HS21 := Lib.hid S21
    clear S21
    clear CaT ZaT
    have CaT := own_box (GS.own HS21.out 0 rfl)
    have ZaT := own_lt (GS.own HS21.out 0 rfl)
    clear Cbw Zbw
    have Cbw := own_box (GS.own HS21.out 3 rfl)
    have Zbw := own_lt (GS.own HS21.out 3 rfl)
    clear CxT ZxT
    have CxT := own_box (GS.own HS21.out 5 rfl)
    have ZxT := own_lt (GS.own HS21.out 5 rfl)
    clear Cbg Zbg
    have Cbg := own_box (GS.own HS21.out 7 rfl)
    have Zbg := own_lt (GS.own HS21.out 7 rfl)
    clear Cbh Zbh
    have Cbh := own_box (GS.own HS21.out 11 rfl)
    have Zbh := own_lt (GS.own HS21.out 11 rfl)
    clear HS20
    clear hb21
    go_wp2
    go_ret
    exact ⟨rfl, HS21.out.bel⟩

end Go.Proofs.Ytkgpdiajnjekcaa
