/- The walk of the law FnExactIsWithin through its contracts. FnExactIsWithin returns true for all arguments. No conditions. -/
import Derived.Test.YtkgpdiajnjekcaaTm
import Derived.Test.YtkgpdiajnjekcaaOpTab
namespace Go.Proofs.Ytkgpdiajnjekcaa
open Go.RowKit
set_option linter.unusedVariables false
set_option linter.unusedSimpArgs false

set_option maxRecDepth 100000 in
set_option maxHeartbeats 4000000 in
theorem walk_FnExactIsWithin (T : Tab) (Axs : Option Addr) (nxs cxs : Nat) (xs : List Int) (g : Int) (w : World) (rT : RdT w T) (hcapT : T.D.length ≤ T.cd ∧ T.cd ≤ maxLen) (hLT : T.L.length ≤ maxLen) (hET : ∀ l ∈ T.L, l.es.length ≤ maxLen) (rAxs : Rd w 1 Axs nxs (I xs)) (_ : ∀ x ∈ xs, (Lit.int .i64 x).wf = true) (wfg : (Lit.int .i64 g).wf = true) :
    Calls Try.prog 7 #[tabV T, .slice Axs nxs cxs, .int .i64 g] w fun e w' => e = .returned (.bool true) ∧ Below w.heap.size w w' := by
  have hlxs := rAxs.len
  by_cases hnxs : nxs ≤ 1048576
  rotate_left
  · have hzxs : (1048576 : Int) < (nxs : Int) := by omega
    go_enter Try.func7, Try.ntmps7
    go_wp2
    go_ret
    exact ⟨rfl, below_alloc _ _⟩
  have hzxs : ¬ (1048576 : Int) < (nxs : Int) := by omega
  have HLxs := Lib.hid hlxs
  clear hlxs
  have hdT : T.D.length ≤ maxLen := Nat.le_trans hcapT.1 hcapT.2
  unfold maxLen at hLT hET hdT
  have HEET := Lib.hid hET
  have HCAPT := Lib.hid hcapT
  clear hET hcapT
  by_cases hszT : lessT 1048576 T < 0
  · go_enter Try.func7, Try.ntmps7
    go_wp2_with fail
    refine (szTable_eq T _ (rT.keep (below_alloc _ _)) hdT hLT HEET.out _ rfl).mono ?_
    rintro e w1 ⟨rfl, hb⟩
    go_wp2
    go_ret
    exact ⟨rfl, below_next (below_alloc _ _) hb⟩
  have BT : Bd T := Bd.of_sz (by omega)
  go_enter Try.func7, Try.ntmps7
  have S1 := GS.new (GS.start w) (sep_one (below_alloc _ _) (own_bx _ 43 2 #[.slice T.Ad T.D.length T.cd, .slice T.Al T.L.length T.cl] rfl))
  try simp only [List.nil_append, List.cons_append, List.set_cons_zero, List.set_cons_succ] at S1
  have HS1 := Lib.hid S1
  clear S1
  have CaT := own_box (GS.own HS1.out 0 rfl)
  have ZaT := own_lt (GS.own HS1.out 0 rfl)
  go_wp2_with fail
  refine (szTable_eq T _ (rT.keep (below_alloc _ _)) hdT hLT HEET.out _ rfl).mono ?_
  rintro e w2 ⟨rfl, hb2⟩
  have S2 := (HS1.out).below hb2
  try simp only [List.nil_append, List.cons_append, List.set_cons_zero, List.set_cons_succ] at S2
  have HS2 := Lib.hid S2
  clear S2
  clear CaT ZaT
  have CaT := own_box (GS.own HS2.out 0 rfl)
  have ZaT := own_lt (GS.own HS2.out 0 rfl)
  clear HS1
  clear hb2
  go_wp2_with fail
  refine (toTable_any T _ (rT.keep HS2.out.bel) BT.d BT.n BT.l).mono ?_
  rintro e w3 ⟨T3, rfl, hD3, hE3, R3⟩
  have BT3 := BT.of_eq hD3 hE3
  have HDT3 := Lib.hid hD3
  have HET3 := Lib.hid hE3
  have S3 := HS2.out.new R3
  try simp only [List.nil_append, List.cons_append, List.set_cons_zero, List.set_cons_succ] at S3
  have HS3 := Lib.hid S3
  clear S3
  clear CaT ZaT
  have CaT := own_box (GS.own HS3.out 0 rfl)
  have ZaT := own_lt (GS.own HS3.out 0 rfl)
  clear HS2
  clear R3 hD3 hE3
  go_wp2_with fail
  refine (toIntS_any Axs nxs cxs xs _ (rAxs.keep HS3.out.bel) (by omega)).mono ?_
  rintro e w4 ⟨A4, c4, rfl, ho4, hb4⟩
  have S4 := HS3.out.new (sep_one hb4 ho4)
  try simp only [List.nil_append, List.cons_append, List.set_cons_zero, List.set_cons_succ] at S4
  have HS4 := Lib.hid S4
  clear S4
  clear CaT ZaT
  have CaT := own_box (GS.own HS4.out 0 rfl)
  have ZaT := own_lt (GS.own HS4.out 0 rfl)
  clear HS3
  clear ho4 hb4
  go_wp2_with fail
  refine (s_IsWithin_any T3 A4 nxs c4 xs g _ (HS4.out.rdT 1 rfl) BT3 (HS4.out.cap 1 rfl) T.D T.E HDT3.out HET3.out (HS4.out.rd 2 rfl) (by omega)).mono ?_
  rintro e w5 ⟨rfl, hb5⟩
  have S5 := (HS4.out).below hb5
  try simp only [List.nil_append, List.cons_append, List.set_cons_zero, List.set_cons_succ] at S5
  have HS5 := Lib.hid S5
  clear S5
  clear CaT ZaT
  have CaT := own_box (GS.own HS5.out 0 rfl)
  have ZaT := own_lt (GS.own HS5.out 0 rfl)
  clear HS4
  clear hb5
  go_wp2_with fail
  refine (toTable_any T _ (rT.keep HS5.out.bel) BT.d BT.n BT.l).mono ?_
  rintro e w6 ⟨T6, rfl, hD6, hE6, R6⟩
  have BT6 := BT.of_eq hD6 hE6
  have HDT6 := Lib.hid hD6
  have HET6 := Lib.hid hE6
  have S6 := HS5.out.new R6
  try simp only [List.nil_append, List.cons_append, List.set_cons_zero, List.set_cons_succ] at S6
  have HS6 := Lib.hid S6
  clear S6
  clear CaT ZaT
  have CaT := own_box (GS.own HS6.out 0 rfl)
  have ZaT := own_lt (GS.own HS6.out 0 rfl)
  clear HS5
  clear R6 hD6 hE6
  have S7 := GS.new HS6.out (sep_one (below_alloc _ _) (own_bx _ 27 2 #[.slice T6.Ad T6.D.length T6.cd, .slice T6.Al T6.L.length T6.cl] rfl))
  try simp only [List.nil_append, List.cons_append, List.set_cons_zero, List.set_cons_succ] at S7
  have HS7 := Lib.hid S7
  clear S7
  clear CaT ZaT
  have CaT := own_box (GS.own HS7.out 0 rfl)
  have ZaT := own_lt (GS.own HS7.out 0 rfl)
  have CxT := own_box (GS.own HS7.out 4 rfl)
  have ZxT := own_lt (GS.own HS7.out 4 rfl)
  clear HS6
  go_wp2_with fail
  refine (toIntS_any Axs nxs cxs xs _ (rAxs.keep HS7.out.bel) (by omega)).mono ?_
  rintro e w8 ⟨A8, c8, rfl, ho8, hb8⟩
  have S8 := HS7.out.new (sep_one hb8 ho8)
  try simp only [List.nil_append, List.cons_append, List.set_cons_zero, List.set_cons_succ] at S8
  have HS8 := Lib.hid S8
  clear S8
  clear CaT ZaT
  have CaT := own_box (GS.own HS8.out 0 rfl)
  have ZaT := own_lt (GS.own HS8.out 0 rfl)
  clear CxT ZxT
  have CxT := own_box (GS.own HS8.out 4 rfl)
  have ZxT := own_lt (GS.own HS8.out 4 rfl)
  clear HS7
  clear ho8 hb8
  go_wp2_with fail
  refine (i_IsWithin_any T6 A8 nxs c8 xs g _ (HS8.out.rdT 3 rfl) BT6 (HS8.out.cap 3 rfl) T.D T.E HDT6.out HET6.out (HS8.out.rd 5 rfl) (by omega)).mono ?_
  rintro e w9 ⟨rfl, hb9⟩
  have S9 := (HS8.out).below hb9
  try simp only [List.nil_append, List.cons_append, List.set_cons_zero, List.set_cons_succ] at S9
  have HS9 := Lib.hid S9
  clear S9
  clear CaT ZaT
  have CaT := own_box (GS.own HS9.out 0 rfl)
  have ZaT := own_lt (GS.own HS9.out 0 rfl)
  clear CxT ZxT
  have CxT := own_box (GS.own HS9.out 4 rfl)
  have ZxT := own_lt (GS.own HS9.out 4 rfl)
  clear HS8
  clear hb9
  have S10d := (HS9.out).below (Below.drew (Below.refl _ _))
  clear CaT ZaT
  have CaT := own_box (GS.own S10d 0 rfl)
  clear CxT ZxT
  have CxT := own_box (GS.own S10d 4 rfl)
  clear HS9
  go_wp2_with fail
  go_region_with (first
    | (go_at_call 29; refine (toTable_any T _ (rT.keep S10d.bel) BT.d BT.n BT.l).mono ?_; rintro e w10 ⟨T10, rfl, hD10, hE10, R10⟩; have S10 := GS.new S10d R10; have CaT := own_box (GS.own S10 0 rfl); have CxT := own_box (GS.own S10 4 rfl); have BT10 := BT.of_eq hD10 hE10; have HDT10 := Lib.hid hD10; have HET10 := Lib.hid hE10; clear hD10 hE10)
    | (go_at_call 30; refine (eqTable_same T6 T10 _ (S10.rdT 3 rfl) (S10.rdT 6 rfl) (by rw [HDT6.out, HDT10.out]) (by rw [HET6.out, HET10.out]) BT6.d BT6.n BT6.l).mono ?_; rintro e w11 ⟨rfl, hb11⟩; have S11 := S10.below hb11))
  all_goals
    have HS11 := Lib.hid S11
    clear S11
    try clear CaT
    try clear CaT
    have CaT := own_box (GS.own HS11.out 0 rfl)
    have ZaT := own_lt (GS.own HS11.out 0 rfl)
    try clear CxT
    try clear CxT
    have CxT := own_box (GS.own HS11.out 4 rfl)
    have ZxT := own_lt (GS.own HS11.out 4 rfl)
    go_wp2_with fail
    refine (toIntS_any Axs nxs cxs xs _ (rAxs.keep HS11.out.bel) (by omega)).mono ?_
    rintro e w12 ⟨A12, c12, rfl, ho12, hb12⟩
    have S12 := HS11.out.new (sep_one hb12 ho12)
    try simp only [List.nil_append, List.cons_append, List.set_cons_zero, List.set_cons_succ] at S12
    have HS12 := Lib.hid S12
    clear S12
    clear CaT ZaT
    have CaT := own_box (GS.own HS12.out 0 rfl)
    have ZaT := own_lt (GS.own HS12.out 0 rfl)
    clear CxT ZxT
    have CxT := own_box (GS.own HS12.out 4 rfl)
    have ZxT := own_lt (GS.own HS12.out 4 rfl)
    clear HS11
    clear ho12 hb12
    go_wp2_with fail
    refine (eqIntS_same A8 A12 nxs c8 c12 xs _ (HS12.out.rd 5 rfl) (HS12.out.rd 7 rfl) (by omega)).mono ?_
    rintro e w13 ⟨rfl, hb13⟩
    have S13 := (HS12.out).below hb13
    try simp only [List.nil_append, List.cons_append, List.set_cons_zero, List.set_cons_succ] at S13
    have HS13 := Lib.hid S13
    clear S13
    clear CaT ZaT
    have CaT := own_box (GS.own HS13.out 0 rfl)
    have ZaT := own_lt (GS.own HS13.out 0 rfl)
    clear CxT ZxT
    have CxT := own_box (GS.own HS13.out 4 rfl)
    have ZxT := own_lt (GS.own HS13.out 4 rfl)
    clear HS12
    clear hb13
    go_wp2
    go_ret
    exact ⟨rfl, HS13.out.bel⟩

end Go.Proofs.Ytkgpdiajnjekcaa
