/- The walk of the law FnExactPagesOn through its contracts. FnExactPagesOn returns true for all arguments. No conditions. -/
import Derived.Test.YtkgpdiajnjekcaaTl
import Derived.Test.YtkgpdiajnjekcaaOpTab
namespace Go.Proofs.Ytkgpdiajnjekcaa
open Go.RowKit
set_option linter.unusedVariables false
set_option linter.unusedSimpArgs false

set_option maxRecDepth 100000 in
set_option maxHeartbeats 4000000 in
theorem walk_FnExactPagesOn (T : Tab) (x : Int) (w : World) (rT : RdT w T) (hcapT : T.D.length ≤ T.cd ∧ T.cd ≤ maxLen) (hLT : T.L.length ≤ maxLen) (hET : ∀ l ∈ T.L, l.es.length ≤ maxLen) (wfx : (Lit.int .i64 x).wf = true) :
    Calls Try.prog 8 #[tabV T, .int .i64 x] w fun e w' => e = .returned (.bool true) ∧ Below w.heap.size w w' := by
  have hdT : T.D.length ≤ maxLen := Nat.le_trans hcapT.1 hcapT.2
  unfold maxLen at hLT hET hdT
  have HEET := Lib.hid hET
  have HCAPT := Lib.hid hcapT
  clear hET hcapT
  by_cases hszT : lessT 1048576 T < 0
  · go_enter Try.func8, Try.ntmps8
    go_wp2_with fail
    refine (szTable_eq T _ (rT.keep (below_alloc _ _)) hdT hLT HEET.out _ rfl).mono ?_
    rintro e w1 ⟨rfl, hb⟩
    go_wp2
    go_ret
    exact ⟨rfl, below_next (below_alloc _ _) hb⟩
  have BT : Bd T := Bd.of_sz (by omega)
  have hlen := onL_len T.D T.E x
  go_enter Try.func8, Try.ntmps8
  have S1 := GS.new (GS.start w) (sep_one (below_alloc _ _) (own_bx _ 43 2 #[.slice T.Ad T.D.length T.cd, .slice T.Al T.L.length T.cl] rfl))
  try simp only [List.nil_append, List.cons_append, List.set_cons_zero, List.set_cons_succ] at S1
  have HS1 := Lib.hid S1
  clear S1
  have CaT := own_box (GS.own HS1.out 0 rfl)
  have ZaT := own_lt (GS.own HS1.out 0 rfl)
  go_wp2_with fail
  refine (szTable_eq T _ (rT.keep (below_alloc _ _)) hdT hLT HEET.out _ rfl).mono ?_
  rintro e w2 ⟨rfl, hb2⟩
  have S2 := (HS1.out).below hb2
  try simp only [List.nil_append, List.cons_append, List.set_cons_zero, List.set_cons_succ] at S2
  have HS2 := Lib.hid S2
  clear S2
  clear CaT ZaT
  have CaT := own_box (GS.own HS2.out 0 rfl)
  have ZaT := own_lt (GS.own HS2.out 0 rfl)
  clear HS1
  clear hb2
  go_wp2_with fail
  refine (toTable_any T _ (rT.keep HS2.out.bel) BT.d BT.n BT.l).mono ?_
  rintro e w3 ⟨T3, rfl, hD3, hE3, R3⟩
  have BT3 := BT.of_eq hD3 hE3
  have HDT3 := Lib.hid hD3
  have HET3 := Lib.hid hE3
  have S3 := HS2.out.new R3
  try simp only [List.nil_append, List.cons_append, List.set_cons_zero, List.set_cons_succ] at S3
  have HS3 := Lib.hid S3
  clear S3
  clear CaT ZaT
  have CaT := own_box (GS.own HS3.out 0 rfl)
  have ZaT := own_lt (GS.own HS3.out 0 rfl)
  clear HS2
  clear R3 hD3 hE3
  go_wp2_with fail
  refine (s_PagesOn_any T3 x _ (HS3.out.rdT 1 rfl) BT3 (HS3.out.cap 1 rfl) T.D T.E HDT3.out HET3.out).mono ?_
  rintro e w4 ⟨A4, c4, rfl, ho4, hb4⟩
  have S4 := HS3.out.new (sep_one hb4 ho4)
  try simp only [List.nil_append, List.cons_append, List.set_cons_zero, List.set_cons_succ] at S4
  have HS4 := Lib.hid S4
  clear S4
  clear CaT ZaT
  have CaT := own_box (GS.own HS4.out 0 rfl)
  have ZaT := own_lt (GS.own HS4.out 0 rfl)
  clear HS3
  clear ho4 hb4
  go_wp2_with fail
  refine (toTable_any T _ (rT.keep HS4.out.bel) BT.d BT.n BT.l).mono ?_
  rintro e w5 ⟨T5, rfl, hD5, hE5, R5⟩
  have BT5 := BT.of_eq hD5 hE5
  have HDT5 := Lib.hid hD5
  have HET5 := Lib.hid hE5
  have S5 := HS4.out.new R5
  try simp only [List.nil_append, List.cons_append, List.set_cons_zero, List.set_cons_succ] at S5
  have HS5 := Lib.hid S5
  clear S5
  clear CaT ZaT
  have CaT := own_box (GS.own HS5.out 0 rfl)
  have ZaT := own_lt (GS.own HS5.out 0 rfl)
  clear HS4
  clear R5 hD5 hE5
  have S6 := GS.new HS5.out (sep_one (below_alloc _ _) (own_bx _ 27 2 #[.slice T5.Ad T5.D.length T5.cd, .slice T5.Al T5.L.length T5.cl] rfl))
  try simp only [List.nil_append, List.cons_append, List.set_cons_zero, List.set_cons_succ] at S6
  have HS6 := Lib.hid S6
  clear S6
  clear CaT ZaT
  have CaT := own_box (GS.own HS6.out 0 rfl)
  have ZaT := own_lt (GS.own HS6.out 0 rfl)
  have CxT := own_box (GS.own HS6.out 4 rfl)
  have ZxT := own_lt (GS.own HS6.out 4 rfl)
  clear HS5
  go_wp2_with fail
  refine (i_PagesOn_any T5 x _ (HS6.out.rdT 3 rfl) BT5 (HS6.out.cap 3 rfl) T.D T.E HDT5.out HET5.out).mono ?_
  rintro e w7 ⟨A7, c7, rfl, ho7, hb7⟩
  have S7 := HS6.out.new (sep_one hb7 ho7)
  try simp only [List.nil_append, List.cons_append, List.set_cons_zero, List.set_cons_succ] at S7
  have HS7 := Lib.hid S7
  clear S7
  clear CaT ZaT
  have CaT := own_box (GS.own HS7.out 0 rfl)
  have ZaT := own_lt (GS.own HS7.out 0 rfl)
  clear CxT ZxT
  have CxT := own_box (GS.own HS7.out 4 rfl)
  have ZxT := own_lt (GS.own HS7.out 4 rfl)
  clear HS6
  clear ho7 hb7
  go_wp2_with fail
  refine (eqIntS_same A7 A4 (onL T.D T.E x).length c7 c4 (onL T.D T.E x) _ (HS7.out.rd 5 rfl) (HS7.out.rd 2 rfl) (by omega)).mono ?_
  rintro e w8 ⟨rfl, hb8⟩
  have S8 := (HS7.out).below hb8
  try simp only [List.nil_append, List.cons_append, List.set_cons_zero, List.set_cons_succ] at S8
  have HS8 := Lib.hid S8
  clear S8
  clear CaT ZaT
  have CaT := own_box (GS.own HS8.out 0 rfl)
  have ZaT := own_lt (GS.own HS8.out 0 rfl)
  clear CxT ZxT
  have CxT := own_box (GS.own HS8.out 4 rfl)
  have ZxT := own_lt (GS.own HS8.out 4 rfl)
  clear HS7
  clear hb8
  have S9d := (HS8.out).below (Below.drew (Below.refl _ _))
  clear CaT ZaT
  have CaT := own_box (GS.own S9d 0 rfl)
  clear CxT ZxT
  have CxT := own_box (GS.own S9d 4 rfl)
  clear HS8
  go_wp2_with fail
  go_region_with (first
    | (go_at_call 29; refine (toTable_any T _ (rT.keep S9d.bel) BT.d BT.n BT.l).mono ?_; rintro e w9 ⟨T9, rfl, hD9, hE9, R9⟩; have S9 := GS.new S9d R9; have CaT := own_box (GS.own S9 0 rfl); have CxT := own_box (GS.own S9 4 rfl); have BT9 := BT.of_eq hD9 hE9; have HDT9 := Lib.hid hD9; have HET9 := Lib.hid hE9; clear hD9 hE9)
    | (go_at_call 30; refine (eqTable_same T5 T9 _ (S9.rdT 3 rfl) (S9.rdT 6 rfl) (by rw [HDT5.out, HDT9.out]) (by rw [HET5.out, HET9.out]) BT5.d BT5.n BT5.l).mono ?_; rintro e w10 ⟨rfl, hb10⟩; have S10 := S9.below hb10))
  all_goals
    have HS10 := Lib.hid S10
    clear S10
    try clear CaT
    try clear CaT
    have CaT := own_box (GS.own HS10.out 0 rfl)
    have ZaT := own_lt (GS.own HS10.out 0 rfl)
    try clear CxT
    try clear CxT
    have CxT := own_box (GS.own HS10.out 4 rfl)
    have ZxT := own_lt (GS.own HS10.out 4 rfl)
    go_wp2_with fail
    obtain ⟨P11, Q11, SP11, SQ11⟩ := HS10.out.open_ 3 (g := T5.things) rfl
    refine (markTable_any w P11 Q11 T5 1 _ SP11 BT5.d BT5.n BT5.l BT5.s (by omega) (by omega)).mono ?_
    rintro e w11 ⟨rfl, SM11⟩
    have S11 := SQ11 w11 _ SM11
    try simp only [List.nil_append, List.cons_append, List.set_cons_zero, List.set_cons_succ] at S11
    have HS11 := Lib.hid S11
    clear S11
    clear CaT ZaT
    have CaT := own_box (GS.own HS11.out 0 rfl)
    have ZaT := own_lt (GS.own HS11.out 0 rfl)
    clear CxT ZxT
    have CxT := own_box (GS.own HS11.out 4 rfl)
    have ZxT := own_lt (GS.own HS11.out 4 rfl)
    clear HS10
    clear SP11 SQ11 SM11
    have hm11 := nxT_bd BT5 (m := 1) (by omega) (by omega)
    have hmn11 : ¬ nxT 1 T5 < 0 := by omega
    go_wp2_with fail
    refine (eqIntS_same A7 A4 (onL T.D T.E x).length c7 c4 (onL T.D T.E x) _ (HS11.out.rd 5 rfl) (HS11.out.rd 2 rfl) (by omega)).mono ?_
    rintro e w12 ⟨rfl, hb12⟩
    have S12 := (HS11.out).below hb12
    try simp only [List.nil_append, List.cons_append, List.set_cons_zero, List.set_cons_succ] at S12
    have HS12 := Lib.hid S12
    clear S12
    clear CaT ZaT
    have CaT := own_box (GS.own HS12.out 0 rfl)
    have ZaT := own_lt (GS.own HS12.out 0 rfl)
    clear CxT ZxT
    have CxT := own_box (GS.own HS12.out 4 rfl)
    have ZxT := own_lt (GS.own HS12.out 4 rfl)
    clear HS11
    clear hb12
    go_wp2_with fail
    refine (markIntS_any A7 (onL T.D T.E x).length c7 _ (onL T.D T.E x) 1 _ (HS12.out.own 5 rfl) (by omega) (by omega) (by omega)).mono ?_
    rintro e w13 ⟨rfl, ho13, hg13⟩
    have S13 := HS12.out.put 5 rfl hg13 _ ho13
    try simp only [List.nil_append, List.cons_append, List.set_cons_zero, List.set_cons_succ] at S13
    have HS13 := Lib.hid S13
    clear S13
    clear CaT ZaT
    have CaT := own_box (GS.own HS13.out 0 rfl)
    have ZaT := own_lt (GS.own HS13.out 0 rfl)
    clear CxT ZxT
    have CxT := own_box (GS.own HS13.out 4 rfl)
    have ZxT := own_lt (GS.own HS13.out 4 rfl)
    clear HS12
    clear ho13 hg13
    go_wp2_with fail
    refine (heldIntS_marks A7 (onL T.D T.E x).length c7 1 _ (HS13.out.rd 5 rfl) (by omega) (by omega) (by omega)).mono ?_
    rintro e w14 ⟨rfl, hb14⟩
    have S14 := (HS13.out).below hb14
    try simp only [List.nil_append, List.cons_append, List.set_cons_zero, List.set_cons_succ] at S14
    have HS14 := Lib.hid S14
    clear S14
    clear CaT ZaT
    have CaT := own_box (GS.own HS14.out 0 rfl)
    have ZaT := own_lt (GS.own HS14.out 0 rfl)
    clear CxT ZxT
    have CxT := own_box (GS.own HS14.out 4 rfl)
    have ZxT := own_lt (GS.own HS14.out 4 rfl)
    clear HS13
    clear hb14
    go_wp2_with fail
    refine (toTable_any T _ (rT.keep HS14.out.bel) BT.d BT.n BT.l).mono ?_
    rintro e w15 ⟨T15, rfl, hD15, hE15, R15⟩
    have BT15 := BT.of_eq hD15 hE15
    have HDT15 := Lib.hid hD15
    have HET15 := Lib.hid hE15
    have S15 := HS14.out.new R15
    try simp only [List.nil_append, List.cons_append, List.set_cons_zero, List.set_cons_succ] at S15
    have HS15 := Lib.hid S15
    clear S15
    clear CaT ZaT
    have CaT := own_box (GS.own HS15.out 0 rfl)
    have ZaT := own_lt (GS.own HS15.out 0 rfl)
    clear CxT ZxT
    have CxT := own_box (GS.own HS15.out 4 rfl)
    have ZxT := own_lt (GS.own HS15.out 4 rfl)
    clear HS14
    clear R15 hD15 hE15
    go_wp2_with fail
    refine (i_PagesOn_any T15 x _ (HS15.out.rdT 7 rfl) BT15 (HS15.out.cap 7 rfl) T.D T.E HDT15.out HET15.out).mono ?_
    rintro e w16 ⟨A16, c16, rfl, ho16, hb16⟩
    have S16 := HS15.out.new (sep_one hb16 ho16)
    try simp only [List.nil_append, List.cons_append, List.set_cons_zero, List.set_cons_succ] at S16
    have HS16 := Lib.hid S16
    clear S16
    clear CaT ZaT
    have CaT := own_box (GS.own HS16.out 0 rfl)
    have ZaT := own_lt (GS.own HS16.out 0 rfl)
    clear CxT ZxT
    have CxT := own_box (GS.own HS16.out 4 rfl)
    have ZxT := own_lt (GS.own HS16.out 4 rfl)
    clear HS15
    clear ho16 hb16
    go_wp2_with fail
    refine (eqIntS_same A16 A4 (onL T.D T.E x).length c16 c4 (onL T.D T.E x) _ (HS16.out.rd 8 rfl) (HS16.out.rd 2 rfl) (by omega)).mono ?_
    rintro e w17 ⟨rfl, hb17⟩
    have S17 := (HS16.out).below hb17
    try simp only [List.nil_append, List.cons_append, List.set_cons_zero, List.set_cons_succ] at S17
    have HS17 := Lib.hid S17
    clear S17
    clear CaT ZaT
    have CaT := own_box (GS.own HS17.out 0 rfl)
    have ZaT := own_lt (GS.own HS17.out 0 rfl)
    clear CxT ZxT
    have CxT := own_box (GS.own HS17.out 4 rfl)
    have ZxT := own_lt (GS.own HS17.out 4 rfl)
    clear HS16
    clear hb17
    go_wp2_with fail
    refine (heldIntS_marks A7 (onL T.D T.E x).length c7 1 _ (HS17.out.rd 5 rfl) (by omega) (by omega) (by omega)).mono ?_
    rintro e w18 ⟨rfl, hb18⟩
    have S18 := (HS17.out).below hb18
    try simp only [List.nil_append, List.cons_append, List.set_cons_zero, List.set_cons_succ] at S18
    have HS18 := Lib.hid S18
    clear S18
    clear CaT ZaT
    have CaT := own_box (GS.own HS18.out 0 rfl)
    have ZaT := own_lt (GS.own HS18.out 0 rfl)
    clear CxT ZxT
    have CxT := own_box (GS.own HS18.out 4 rfl)
    have ZxT := own_lt (GS.own HS18.out 4 rfl)
    clear HS17
    clear hb18
    go_wp2
    go_ret
    exact ⟨rfl, HS18.out.bel⟩

end Go.Proofs.Ytkgpdiajnjekcaa
