/- The walk of the law FnExactTranslate through its contracts. FnExactTranslate returns true for all arguments. No conditions. -/
import Derived.Test.YtkgpdiajnjekcaaTj
import Derived.Test.YtkgpdiajnjekcaaOpTab
namespace Go.Proofs.Ytkgpdiajnjekcaa
open Go.RowKit
set_option linter.unusedVariables false
set_option linter.unusedSimpArgs false

set_option maxRecDepth 100000 in
set_option maxHeartbeats 4000000 in
theorem walk_FnExactTranslate (T : Tab) (p : Int) (wr : Bool) (w : World) (rT : RdT w T) (hcapT : T.D.length ≤ T.cd ∧ T.cd ≤ maxLen) (hLT : T.L.length ≤ maxLen) (hET : ∀ l ∈ T.L, l.es.length ≤ maxLen) (wfp : (Lit.int .i64 p).wf = true) :
    Calls Try.prog 5 #[tabV T, .int .i64 p, .bool wr] w fun e w' => e = .returned (.bool true) ∧ Below w.heap.size w w' := by
  have hdT : T.D.length ≤ maxLen := Nat.le_trans hcapT.1 hcapT.2
  unfold maxLen at hLT hET hdT
  have HEET := Lib.hid hET
  have HCAPT := Lib.hid hcapT
  clear hET hcapT
  by_cases hszT : lessT 1048576 T < 0
  · go_enter Try.func5, Try.ntmps5
    go_wp2_with fail
    refine (szTable_eq T _ (rT.keep (below_alloc _ _)) hdT hLT HEET.out _ rfl).mono ?_
    rintro e w1 ⟨rfl, hb⟩
    go_wp2
    go_ret
    exact ⟨rfl, below_next (below_alloc _ _) hb⟩
  have BT : Bd T := Bd.of_sz (by omega)
  go_enter Try.func5, Try.ntmps5
  have S1 := GS.new (GS.start w) (sep_one (below_alloc _ _) (own_bx _ 43 2 #[.slice T.Ad T.D.length T.cd, .slice T.Al T.L.length T.cl] rfl))
  try simp only [List.nil_append, List.cons_append, List.set_cons_zero, List.set_cons_succ] at S1
  have HS1 := Lib.hid S1
  clear S1
  have CaT := own_box (GS.own HS1.out 0 rfl)
  have ZaT := own_lt (GS.own HS1.out 0 rfl)
  go_wp2_with fail
  refine (szTable_eq T _ (rT.keep (below_alloc _ _)) hdT hLT HEET.out _ rfl).mono ?_
  rintro e w2 ⟨rfl, hb2⟩
  have S2 := (HS1.out).below hb2
  try simp only [List.nil_append, List.cons_append, List.set_cons_zero, List.set_cons_succ] at S2
  have HS2 := Lib.hid S2
  clear S2
  clear CaT ZaT
  have CaT := own_box (GS.own HS2.out 0 rfl)
  have ZaT := own_lt (GS.own HS2.out 0 rfl)
  clear HS1
  clear hb2
  go_wp2_with fail
  refine (toTable_any T _ (rT.keep HS2.out.bel) BT.d BT.n BT.l).mono ?_
  rintro e w3 ⟨T3, rfl, hD3, hE3, R3⟩
  have BT3 := BT.of_eq hD3 hE3
  have HDT3 := Lib.hid hD3
  have HET3 := Lib.hid hE3
  have S3 := HS2.out.new R3
  try simp only [List.nil_append, List.cons_append, List.set_cons_zero, List.set_cons_succ] at S3
  have HS3 := Lib.hid S3
  clear S3
  clear CaT ZaT
  have CaT := own_box (GS.own HS3.out 0 rfl)
  have ZaT := own_lt (GS.own HS3.out 0 rfl)
  clear HS2
  clear R3 hD3 hE3
  go_wp2_with fail
  refine (s_Translate_any T3 p wr _ (HS3.out.rdT 1 rfl) BT3 (HS3.out.cap 1 rfl) T.D T.E HDT3.out HET3.out).mono ?_
  rintro e w4 ⟨rfl, hb4⟩
  have S4 := (HS3.out).below hb4
  try simp only [List.nil_append, List.cons_append, List.set_cons_zero, List.set_cons_succ] at S4
  have HS4 := Lib.hid S4
  clear S4
  clear CaT ZaT
  have CaT := own_box (GS.own HS4.out 0 rfl)
  have ZaT := own_lt (GS.own HS4.out 0 rfl)
  clear HS3
  clear hb4
  go_wp2_with fail
  refine (toTable_any T _ (rT.keep HS4.out.bel) BT.d BT.n BT.l).mono ?_
  rintro e w5 ⟨T5, rfl, hD5, hE5, R5⟩
  have BT5 := BT.of_eq hD5 hE5
  have HDT5 := Lib.hid hD5
  have HET5 := Lib.hid hE5
  have S5 := HS4.out.new R5
  try simp only [List.nil_append, List.cons_append, List.set_cons_zero, List.set_cons_succ] at S5
  have HS5 := Lib.hid S5
  clear S5
  clear CaT ZaT
  have CaT := own_box (GS.own HS5.out 0 rfl)
  have ZaT := own_lt (GS.own HS5.out 0 rfl)
  clear HS4
  clear R5 hD5 hE5
  have S6 := GS.new HS5.out (sep_one (below_alloc _ _) (own_bx _ 27 2 #[.slice T5.Ad T5.D.length T5.cd, .slice T5.Al T5.L.length T5.cl] rfl))
  try simp only [List.nil_append, List.cons_append, List.set_cons_zero, List.set_cons_succ] at S6
  have HS6 := Lib.hid S6
  clear S6
  clear CaT ZaT
  have CaT := own_box (GS.own HS6.out 0 rfl)
  have ZaT := own_lt (GS.own HS6.out 0 rfl)
  have CxT := own_box (GS.own HS6.out 3 rfl)
  have ZxT := own_lt (GS.own HS6.out 3 rfl)
  clear HS5
  go_wp2_with fail
  refine (i_Translate_any T5 p wr _ (HS6.out.rdT 2 rfl) BT5 (HS6.out.cap 2 rfl) T.D T.E HDT5.out HET5.out).mono ?_
  rintro e w7 ⟨rfl, hb7⟩
  have S7 := (HS6.out).below hb7
  try simp only [List.nil_append, List.cons_append, List.set_cons_zero, List.set_cons_succ] at S7
  have HS7 := Lib.hid S7
  clear S7
  clear CaT ZaT
  have CaT := own_box (GS.own HS7.out 0 rfl)
  have ZaT := own_lt (GS.own HS7.out 0 rfl)
  clear CxT ZxT
  have CxT := own_box (GS.own HS7.out 3 rfl)
  have ZxT := own_lt (GS.own HS7.out 3 rfl)
  clear HS6
  clear hb7
  have S8d := (HS7.out).below (Below.drew (Below.refl _ _))
  clear CaT ZaT
  have CaT := own_box (GS.own S8d 0 rfl)
  clear CxT ZxT
  have CxT := own_box (GS.own S8d 3 rfl)
  clear HS7
  go_wp2_with fail
  go_region_with (first
    | (go_at_call 29; refine (toTable_any T _ (rT.keep S8d.bel) BT.d BT.n BT.l).mono ?_; rintro e w8 ⟨T8, rfl, hD8, hE8, R8⟩; have S8 := GS.new S8d R8; have CaT := own_box (GS.own S8 0 rfl); have CxT := own_box (GS.own S8 3 rfl); have BT8 := BT.of_eq hD8 hE8; have HDT8 := Lib.hid hD8; have HET8 := Lib.hid hE8; clear hD8 hE8)
    | (go_at_call 30; refine (eqTable_same T5 T8 _ (S8.rdT 2 rfl) (S8.rdT 4 rfl) (by rw [HDT5.out, HDT8.out]) (by rw [HET5.out, HET8.out]) BT5.d BT5.n BT5.l).mono ?_; rintro e w9 ⟨rfl, hb9⟩; have S9 := S8.below hb9))
  all_goals
    have HS9 := Lib.hid S9
    clear S9
    try clear CaT
    try clear CaT
    have CaT := own_box (GS.own HS9.out 0 rfl)
    have ZaT := own_lt (GS.own HS9.out 0 rfl)
    try clear CxT
    try clear CxT
    have CxT := own_box (GS.own HS9.out 3 rfl)
    have ZxT := own_lt (GS.own HS9.out 3 rfl)
    go_wp2
    go_ret
    exact ⟨rfl, HS9.out.bel⟩

end Go.Proofs.Ytkgpdiajnjekcaa
