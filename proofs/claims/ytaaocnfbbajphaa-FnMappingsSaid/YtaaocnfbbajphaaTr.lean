/- Contracts of MapRun, MapPage, TableOf in the program. Tables not too large. -/
import Derived.Test.YtaaocnfbbajphaaTq
namespace Go.Proofs.Ytaaocnfbbajphaa
open Go.RowKit
set_option linter.unusedVariables false
set_option linter.unusedSimpArgs false

abbrev DE := List Int × List (List REntry)
noncomputable def stepM (x : DE) (p f : Int) (wb : Bool) : Option DE := if mapOk x.1 x.2 p f then some (mapD x.1 x.2 p.toNat, mapL x.1 x.2 p.toNat ⟨f, wb⟩) else none
/-- the table behind k steps of a run, if each can be made -/
noncomputable def runTo (x : DE) (p f : Int) (wb : Bool) : Nat → Option DE
  | 0 => some x
  | k + 1 => (runTo x p f wb k).bind fun y => stepM y (p + k) (f + k) wb
theorem runTo_none {x : DE} {p f : Int} {wb : Bool} {k : Nat} (h : runTo x p f wb k = none) : ∀ c, k ≤ c → runTo x p f wb c = none := by
  intro c hc
  induction c with
  | zero => obtain rfl : k = 0 := by omega
            exact h
  | succ c ih =>
    by_cases hk : k = c + 1
    · subst hk; exact h
    · rw [runTo, ih (by omega)]; rfl
theorem stepM_good {x y : DE} {p f : Int} {wb : Bool} (hg : Good x.1 x.2) (h : stepM x p f wb = some y) : Good y.1 y.2 := by
  unfold stepM at h
  split at h
  · rename_i hk
    obtain rfl := Option.some.inj h
    exact mapOk_good hg hk
  · cases h
theorem runTo_good {x : DE} {p f : Int} {wb : Bool} (hg : Good x.1 x.2) : ∀ (k : Nat) (y : DE), runTo x p f wb k = some y → Good y.1 y.2
  | 0, y, h => by obtain rfl := Option.some.inj h; exact hg
  | k + 1, y, h => by
    rw [runTo] at h
    cases hk : runTo x p f wb k with
    | none => rw [hk] at h; cases h
    | some z => rw [hk] at h; exact stepM_good (runTo_good hg k z hk) h
noncomputable def runR (x : DE) (p f c : Int) (wb : Bool) : Option DE := if goodB x.1 x.2 && inB c 1 16 then runTo x p f wb c.toNat else none
def oD (r : Option DE) : List Int := (r.map (·.1)).getD []
def oE (r : Option DE) : List (List REntry) := (r.map (·.2)).getD []
theorem runR_bd {x : DE} {p f c : Int} {wb : Bool} {T : Tab} (hD : T.D = oD (runR x p f c wb)) (hE : T.E = oE (runR x p f c wb)) : Bd T := by
  unfold runR at hD hE
  split at hD
  · rename_i h
    rw [if_pos h] at hE
    simp only [Bool.and_eq_true] at h
    cases hr : runTo x p f wb c.toNat with
    | none =>
      rw [hr] at hD hE
      exact Bd.nil_.of_eq hD hE
    | some y =>
      rw [hr] at hD hE
      refine Bd.good ?_
      rw [hD, hE]
      exact runTo_good (goodB_iff.1 h.1) _ y hr
  · rename_i h
    rw [if_neg h] at hE
    exact Bd.nil_.of_eq hD hE
theorem wf_bd {p : Int} (h : (Lit.int .i64 p).wf = true) : -9223372036854775808 ≤ p ∧ p ≤ 9223372036854775807 := by
  have h2 : (decide (IntKind.i64.min ≤ p) && decide (p ≤ IntKind.i64.max)) = true := h
  rw [Bool.and_eq_true, decide_eq_true_eq, decide_eq_true_eq] at h2
  exact h2

set_option maxRecDepth 100000 in
set_option maxHeartbeats 4000000 in
theorem i_MapRun_any (T : Tab) (p f c : Int) (wb : Bool) (w : World) (hr : RdT w T) (B : Bd T) (hcap : T.D.length ≤ T.cd ∧ T.cd ≤ maxLen) (D : List Int) (E : List (List REntry)) (hD : T.D = D) (hE : T.E = E) (wfp : (Lit.int .i64 p).wf = true) (wff : (Lit.int .i64 f).wf = true) :
    Calls Try.prog 27 #[tabV T, .int .i64 p, .int .i64 f, .int .i64 c, .bool wb] w fun e w' => ∃ T' : Tab, e = .returned (.tuple #[tabV T', .bool (runR (D, E) p f c wb).isSome]) ∧ T'.D = oD (runR (D, E) p f c wb) ∧ T'.E = oE (runR (D, E) p f c wb) ∧ Bd T' ∧ Sep w w' T'.things := by
  suffices h : Calls Try.prog 27 #[tabV T, .int .i64 p, .int .i64 f, .int .i64 c, .bool wb] w fun e w' => ∃ T' : Tab, e = .returned (.tuple #[tabV T', .bool (runR (D, E) p f c wb).isSome]) ∧ T'.D = oD (runR (D, E) p f c wb) ∧ T'.E = oE (runR (D, E) p f c wb) ∧ Sep w w' T'.things from
    h.mono fun e w' ⟨T', h1, h2, h3, h4⟩ => ⟨T', h1, h2, h3, runR_bd h2 h3, h4⟩
  subst hD hE
  have HRD := Lib.hid hr
  have S0 := (Sep.start w).new (below_alloc w _) (own_bx w 27 2 #[.slice T.Ad T.D.length T.cd, .slice T.Al T.L.length T.cl] rfl)
  have S1 := S0.new (below_alloc _ _) (own_bx _ 27 2 #[.slice none 0 0, .slice none 0 0] rfl)
  simp only [List.nil_append, List.cons_append, size_alloc] at S1
  have HS1 := Lib.hid S1
  have HPB := Lib.hid (wf_bd wfp)
  have HFB := Lib.hid (wf_bd wff)
  clear S0 S1 hr wfp wff
  cases h1 : goodB T.D T.E
  all_goals have H1 := Lib.hid h1
  · have hk : runR (T.D, T.E) p f c wb = none := by simp [runR, h1]
    rw [hk]
    clear h1 hk
    go_enter Try.func27, Try.ntmps27
    go_wp2_with fail
    refine (i_IsTable_eq T _ (HRD.out.keep HS1.out.bel) B.d B.n B.l _ H1.out).mono ?_
    rintro e w1 ⟨rfl, hb⟩
    have C1 := own_box ((HS1.out.below hb).own 1 _ rfl)
    have F1 := own_free ((HS1.out.below hb).own 1 _ rfl)
    have HB := Lib.hid (HS1.out.below hb).bel
    clear hb
    go_wp2
    refine bodyPost_ret (v := .tuple #[.agg #[.slice none 0 0, .slice none 0 0], .bool false]) (by simp [results, Try.results27, go_sem, C1]) rfl ?_
    exact ⟨tab0, rfl, rfl, rfl, things0_below ((HB.out.setCell (by simp) _).setCell (by simp) _)⟩
  · have HG := Lib.hid (goodB_iff.1 h1)
    cases h2 : inB c 1 16
    all_goals have H2 := Lib.hid h2
    · have hk : runR (T.D, T.E) p f c wb = none := by simp [runR, h2]
      rw [hk]
      clear h1 h2 hk
      go_enter Try.func27, Try.ntmps27
      go_wp2_with fail
      refine (i_IsTable_eq T _ (HRD.out.keep HS1.out.bel) B.d B.n B.l _ H1.out).mono ?_
      rintro e w1 ⟨rfl, hb⟩
      have C1 := own_box ((HS1.out.below hb).own 1 _ rfl)
      have F1 := own_free ((HS1.out.below hb).own 1 _ rfl)
      have HB := Lib.hid (HS1.out.below hb).bel
      clear hb
      go_wp2_with fail
      refine (inside_eq H2.out _).mono ?_
      rintro e w2 ⟨rfl, rfl⟩
      go_wp2
      refine bodyPost_ret (v := .tuple #[.agg #[.slice none 0 0, .slice none 0 0], .bool false]) (by simp [results, Try.results27, go_sem, C1]) rfl ?_
      exact ⟨tab0, rfl, rfl, rfl, things0_below ((HB.out.setCell (by simp) _).setCell (by simp) _)⟩
    · obtain ⟨n, rfl⟩ := Int.eq_ofNat_of_zero_le (show 0 ≤ c by have := (inB_iff.1 h2).1; omega)
      have hn16 : n ≤ 16 := by have := (inB_iff.1 h2).2; omega
      have HKR : Hid (runR (T.D, T.E) p f (n : Int) wb = runTo (T.D, T.E) p f wb n) := by show runR _ _ _ _ _ = _; simp [runR, h1, h2]
      clear h1 h2
      go_enter Try.func27, Try.ntmps27
      go_wp2_with fail
      refine (i_IsTable_eq T _ (HRD.out.keep HS1.out.bel) B.d B.n B.l _ H1.out).mono ?_
      rintro e w1 ⟨rfl, hb⟩
      have C0 := own_box ((HS1.out.below hb).own 0 _ rfl)
      have HS2 := Lib.hid (HS1.out.below hb)
      clear hb
      go_wp2_with fail
      refine (inside_eq H2.out _).mono ?_
      rintro e w2 ⟨rfl, rfl⟩
      go_wp2_with fail
      refine (newTable_any T _ (HRD.out.keep HS2.out.bel) B (good_leaf4 HG.out)).mono ?_
      rintro e w3 ⟨T1, rfl, hD1, hE1, R⟩
      have S4 := HS2.out.join R
      have S5 := tv_in (S4.new (below_alloc _ _) (own_bx _ 27 2 #[.slice T1.Ad T1.D.length T1.cd, .slice T1.Al T1.L.length T1.cl] rfl))
      have HS5 := Lib.hid S5
      have HD1 := Lib.hid hD1
      have HE1 := Lib.hid hE1
      clear S4 S5 R C0 hD1 hE1
      go_wp2
      go_loopw [13, 26] (fun x i wo => ∃ (k : Nat) (T2 : Tab), k ≤ n ∧ i = .int .i64 k ∧ Hid (runTo (T.D, T.E) p f wb k = some (T2.D, T2.E)) ∧ Hid (Good T2.D T2.E) ∧ Hid (k = 0 ∨ (0 ≤ p ∧ p ≤ 15 ∧ 0 ≤ f ∧ f ≤ 15)) ∧
          Hid (Sep w wo ([bx 27 2 w.heap.size [.slice T.Ad T.D.length T.cd, .slice T.Al T.L.length T.cl], bx 27 2 (w.heap.size + 1) [.slice none 0 0, .slice none 0 0]] ++ tvT w3.heap.size T2))) (fun _ i _ => n - (intOf i).toNat)
      case atStart => exact ⟨0, T1, Nat.zero_le _, rfl, by rw [HD1.out, HE1.out]; rfl, by rw [HD1.out, HE1.out]; exact HG.out, .inl rfl, HS5⟩
      case round =>
        obtain ⟨k, T2, hk, rfl, HRT, HG2, HK0, HS⟩ := hrel
        by_cases hlt : k < n
        · have hp1 : -9223372036854775808 ≤ p + (k : Int) := by have := HPB.out; omega
          have hp2 : p + (k : Int) ≤ 9223372036854775807 := by have := HPB.out; rcases HK0.out with h | h <;> omega
          have hf1 : -9223372036854775808 ≤ f + (k : Int) := by have := HFB.out; omega
          have hf2 : f + (k : Int) ≤ 9223372036854775807 := by have := HFB.out; rcases HK0.out with h | h <;> omega
          cases hm : mapOk T2.D T2.E (p + k) (f + k)
          all_goals have HM := Lib.hid hm
          all_goals clear hm
          · have C1 := own_box (HS.out.own 1 _ rfl)
            go_wp2_with fail
            refine (mapPage_any w _ _ T2 (p + k) (f + k) wb _ HS.out HG2.out _ HM.out).mono ?_
            rintro e w4 ⟨T3, rfl, _, S⟩
            clear C1
            have C1 := own_box (S.own 1 _ rfl)
            have F1 := own_free (S.own 1 _ rfl)
            have HB := Lib.hid S.bel
            clear S
            go_wp2
            refine bodyPost_ret (v := .tuple #[.agg #[.slice none 0 0, .slice none 0 0], .bool false]) (by simp [results, Try.results27, go_sem, C1]) rfl ?_
            have hnone : runTo (T.D, T.E) p f wb (k + 1) = none := by
              rw [runTo, HRT.out]
              show stepM _ _ _ _ = none
              rw [stepM, if_neg (by rw [HM.out]; decide)]
            have hkr := HKR.out
            rw [runTo_none hnone n (by omega)] at hkr
            rw [hkr]
            exact ⟨tab0, rfl, rfl, rfl, things0_below ((HB.out.setCell (by simp) _).setCell (by simp) _)⟩
          · go_wp2_with fail
            refine (mapPage_any w _ _ T2 (p + k) (f + k) wb _ HS.out HG2.out _ HM.out).mono ?_
            rintro e w4 ⟨T3, rfl, h3, S⟩
            have HS3 := Lib.hid S
            have HD3 := Lib.hid (h3 rfl).1
            have HE3 := Lib.hid (h3 rfl).2
            clear S h3
            go_wp2
            go_roundw
            case rel =>
              refine ⟨k + 1, T3, by omega, by go_num, ?_, ?_, ?_, HS3⟩
              · rw [runTo, HRT.out]
                show stepM _ _ _ _ = _
                rw [stepM, if_pos HM.out, HD3.out, HE3.out]
              · rw [HD3.out, HE3.out]; exact mapOk_good HG2.out HM.out
              · right
                have hm := HM.out
                simp only [mapOk, Bool.and_eq_true] at hm
                have h5 := inB_iff.1 hm.1
                have h6 := inB_iff.1 hm.2.1
                rcases HK0.out with h | h
                · subst h; simp at h5 h6; omega
                · exact h
            case measure => simp [intOf]; omega
        · have HKN : Hid (k = n) := by show k = n; omega
          have C7 := own_box (tv_box HS.out)
          have Z7 := own_lt (tv_box HS.out)
          have C8 := own_box (HS.out.own 1 _ rfl)
          have F8 := own_free (HS.out.own 1 _ rfl)
          go_wp2
          refine bodyPost_ret (v := .tuple #[tabV T2, .bool true]) (by simp [results, Try.results27, go_sem, C8]) rfl ?_
          have P3 := own_putAll [.slice T2.Ad T2.D.length T2.cd, .slice T2.Al T2.L.length T2.cl] _ _ 0 (HS.out.own 1 _ rfl)
          have S8 := HS.out.write 1 rfl P3.2 _ P3.1
          have hkr := HKR.out
          have hrt := HRT.out
          rw [HKN.out] at hrt
          rw [hrt] at hkr
          rw [hkr]
          exact ⟨T2, rfl, rfl, rfl, tv_things (P := [_, _]) S8⟩

/-- the table in which a page is mapped, or not -/
noncomputable def mpR (x : DE) (p f : Int) (wb : Bool) : Option DE := if goodB x.1 x.2 then stepM x p f wb else none
theorem runR_one (x : DE) (p f : Int) (wb : Bool) : runR x p f 1 wb = mpR x p f wb := by
  unfold runR mpR
  cases goodB x.1 x.2
  · rfl
  · have h1 : inB 1 1 16 = true := by decide
    rw [h1]
    simp only [Bool.and_self, if_true]
    show (runTo x p f wb 0).bind _ = _
    rw [runTo]
    show stepM x (p + ((0 : Nat) : Int)) (f + ((0 : Nat) : Int)) wb = _
    rw [show p + ((0 : Nat) : Int) = p by omega, show f + ((0 : Nat) : Int) = f by omega]
theorem mpR_bd {x : DE} {p f : Int} {wb : Bool} {T : Tab} (hD : T.D = oD (mpR x p f wb)) (hE : T.E = oE (mpR x p f wb)) : Bd T := by
  rw [← runR_one] at hD hE; exact runR_bd hD hE
set_option maxRecDepth 100000 in
set_option maxHeartbeats 4000000 in
theorem i_MapPage_any (T : Tab) (p f : Int) (wb : Bool) (w : World) (hr : RdT w T) (B : Bd T) (hcap : T.D.length ≤ T.cd ∧ T.cd ≤ maxLen) (D : List Int) (E : List (List REntry)) (hD : T.D = D) (hE : T.E = E) (wfp : (Lit.int .i64 p).wf = true) (wff : (Lit.int .i64 f).wf = true) :
    Calls Try.prog 7 #[tabV T, .int .i64 p, .int .i64 f, .bool wb] w fun e w' => ∃ T' : Tab, e = .returned (.tuple #[tabV T', .bool (mpR (D, E) p f wb).isSome]) ∧ T'.D = oD (mpR (D, E) p f wb) ∧ T'.E = oE (mpR (D, E) p f wb) ∧ Bd T' ∧ Sep w w' T'.things := by
  have HD := Lib.hid hD
  have HE := Lib.hid hE
  have HC := Lib.hid hcap
  have HWP := Lib.hid wfp
  have HWF := Lib.hid wff
  have HRD := Lib.hid hr
  have S0 := (Sep.start w).new (below_alloc w _) (own_bx w 27 2 #[.slice T.Ad T.D.length T.cd, .slice T.Al T.L.length T.cl] rfl)
  have S1 := S0.new (below_alloc _ _) (own_bx _ 27 2 #[.slice none 0 0, .slice none 0 0] rfl)
  simp only [List.nil_append, List.cons_append, size_alloc] at S1
  have HS1 := Lib.hid S1
  clear S0 S1 hr wfp wff hD hE hcap
  go_enter Try.func7, Try.ntmps7
  go_wp2_with fail
  refine (i_MapRun_any T p f 1 wb _ (HRD.out.keep HS1.out.bel) B HC.out D E HD.out HE.out HWP.out HWF.out).mono ?_
  rintro e w1 ⟨T1, rfl, h1, h2, h3, R⟩
  rw [runR_one] at h1 h2 ⊢
  have S2 := HS1.out.join R
  have C1 := own_box (S2.own 1 _ rfl)
  have F1 := own_free (S2.own 1 _ rfl)
  have HS2 := Lib.hid S2
  have H1 := Lib.hid h1
  have H2 := Lib.hid h2
  clear S2 R h1 h2
  go_wp2
  refine bodyPost_ret (v := .tuple #[tabV T1, .bool (mpR (D, E) p f wb).isSome]) (by simp [results, Try.results7, go_sem, C1]) rfl ?_
  have P3 := own_putAll [.slice T1.Ad T1.D.length T1.cd, .slice T1.Al T1.L.length T1.cl] _ _ 0 (HS2.out.own 1 _ rfl)
  have S8 := HS2.out.write 1 rfl P3.2 _ P3.1
  exact ⟨T1, rfl, H1.out, H2.out, h3, S8.tail.tail⟩

theorem good_empty : Good [-1, -1, -1, -1] [] := by
  refine ⟨rfl, by simp, fun j d hj hd hne => ?_, rfl⟩
  match j, hj with
  | 0, _ => simp at hd; omega
  | 1, _ => simp at hd; omega
  | 2, _ => simp at hd; omega
  | 3, _ => simp at hd; omega
/-- the table behind the first k pages, if each can be mapped -/
noncomputable def tofTo (ps fs : List Int) : Nat → Option DE
  | 0 => some ([-1, -1, -1, -1], [])
  | k + 1 => (tofTo ps fs k).bind fun y => stepM y (ps[k]?.getD 0) (fs[k]?.getD 0) true
noncomputable def tofR (ps fs : List Int) : Option DE := if ps.length = fs.length then tofTo ps fs ps.length else none
theorem tofTo_none {ps fs : List Int} {k : Nat} (h : tofTo ps fs k = none) : ∀ c, k ≤ c → tofTo ps fs c = none := by
  intro c hc
  induction c with
  | zero => obtain rfl : k = 0 := by omega
            exact h
  | succ c ih =>
    by_cases hk : k = c + 1
    · subst hk; exact h
    · rw [tofTo, ih (by omega)]; rfl
theorem tofTo_good {ps fs : List Int} : ∀ (k : Nat) (y : DE), tofTo ps fs k = some y → Good y.1 y.2
  | 0, y, h => by obtain rfl := Option.some.inj h; exact good_empty
  | k + 1, y, h => by
    rw [tofTo] at h
    cases hk : tofTo ps fs k with
    | none => rw [hk] at h; cases h
    | some z => rw [hk] at h; exact stepM_good (tofTo_good k z hk) h
theorem tofR_bd {ps fs : List Int} {T : Tab} (hD : T.D = oD (tofR ps fs)) (hE : T.E = oE (tofR ps fs)) : Bd T := by
  unfold tofR at hD hE
  split at hD
  · rename_i h
    rw [if_pos h] at hE
    cases hr : tofTo ps fs ps.length with
    | none =>
      rw [hr] at hD hE
      exact Bd.nil_.of_eq hD hE
    | some y =>
      rw [hr] at hD hE
      refine Bd.good ?_
      rw [hD, hE]
      exact tofTo_good _ y hr
  · rename_i h
    rw [if_neg h] at hE
    exact Bd.nil_.of_eq hD hE
set_option maxRecDepth 100000 in
set_option maxHeartbeats 4000000 in
theorem i_TableOf_any (A1 : Option Addr) (n1 c1 : Nat) (ps : List Int) (A2 : Option Addr) (n2 c2 : Nat) (fs : List Int) (w : World) (hr1 : Rd w 1 A1 n1 (I ps)) (hn1 : n1 ≤ 1048576) (hr2 : Rd w 1 A2 n2 (I fs)) (hn2 : n2 ≤ 1048576) :
    Calls Try.prog 35 #[.slice A1 n1 c1, .slice A2 n2 c2] w fun e w' => ∃ T' : Tab, e = .returned (.tuple #[tabV T', .bool (tofR ps fs).isSome]) ∧ T'.D = oD (tofR ps fs) ∧ T'.E = oE (tofR ps fs) ∧ Bd T' ∧ Sep w w' T'.things := by
  suffices h : Calls Try.prog 35 #[.slice A1 n1 c1, .slice A2 n2 c2] w fun e w' => ∃ T' : Tab, e = .returned (.tuple #[tabV T', .bool (tofR ps fs).isSome]) ∧ T'.D = oD (tofR ps fs) ∧ T'.E = oE (tofR ps fs) ∧ Sep w w' T'.things from
    h.mono fun e w' ⟨T', h1, h2, h3, h4⟩ => ⟨T', h1, h2, h3, tofR_bd h2 h3, h4⟩
  have hl1 := hr1.len
  have hl2 := hr2.len
  have S1 := (Sep.start w).new (below_alloc w _) (own_bx w 27 2 #[.slice none 0 0, .slice none 0 0] rfl)
  simp only [List.nil_append] at S1
  have HS1 := Lib.hid S1
  clear S1
  by_cases hnn : n1 = n2
  · have HKR : Hid (tofR ps fs = tofTo ps fs n1) := by show tofR ps fs = _; rw [tofR, if_pos (by omega), hl1]
    have hnb : ((n1 : Int) != (n2 : Int)) = false := by simp; omega
    have HNN := Lib.hid hnn
    have HL1 := Lib.hid hl1
    clear hnn hl1 hl2
    go_enter Try.func35, Try.ntmps35
    go_wp2_with fail
    refine (emptyTable_any _).mono ?_
    rintro e w3 ⟨T1, rfl, hD1, hE1, R⟩
    have S4 := HS1.out.join R
    have S5 := tv_in (S4.new (below_alloc _ _) (own_bx _ 27 2 #[.slice T1.Ad T1.D.length T1.cd, .slice T1.Al T1.L.length T1.cl] rfl))
    have HS5 := Lib.hid S5
    have HD1 := Lib.hid hD1
    have HE1 := Lib.hid hE1
    clear S4 S5 R hD1 hE1 hnb
    go_wp2
    go_loopw [7, 8, 18] (fun x y i wo => ∃ (k : Nat) (T2 : Tab), k ≤ n1 ∧ i = .int .i64 k ∧ Hid (tofTo ps fs k = some (T2.D, T2.E)) ∧
        Hid (Sep w wo ([bx 27 2 w.heap.size [.slice none 0 0, .slice none 0 0]] ++ tvT w3.heap.size T2))) (fun _ _ i _ => n1 - (intOf i).toNat)
    case atStart => exact ⟨0, T1, Nat.zero_le _, rfl, by rw [HD1.out, HE1.out]; rfl, HS5⟩
    case round =>
      obtain ⟨k, T2, hk, rfl, HRT, HS⟩ := hrel
      have HG2 := Lib.hid (tofTo_good _ _ HRT.out)
      by_cases hlt : k < n1
      · obtain ⟨b1, o1, p, rfl, hbl1, hxp, hc1⟩ := (hr1.keep HS.out.bel).at_ hlt
        obtain ⟨b2, o2, f, rfl, hbl2, hxf, hc2⟩ := (hr2.keep HS.out.bel).at_ (k := k) (by have := HNN.out; omega)
        have h2 : (k : Int) < (n2 : Int) := by have := HNN.out; omega
        have hstep : Hid (tofTo ps fs (k + 1) = stepM (T2.D, T2.E) p f true) := by
          show tofTo ps fs (k + 1) = _
          rw [tofTo, HRT.out, hxp.out, hxf.out]; rfl
        cases hm : mapOk T2.D T2.E p f
        all_goals have HM := Lib.hid hm
        all_goals clear hm
        · go_wp2_with fail
          refine (mapPage_any w _ _ T2 p f true _ HS.out HG2.out _ HM.out).mono ?_
          rintro e w4 ⟨T3, rfl, _, S⟩
          have C1 := own_box (S.own 0 _ rfl)
          have F1 := own_free (S.own 0 _ rfl)
          have HB := Lib.hid S.bel
          clear S
          go_wp2
          refine bodyPost_ret (v := .tuple #[.agg #[.slice none 0 0, .slice none 0 0], .bool false]) (by simp [results, Try.results35, go_sem, C1]) rfl ?_
          have hnone : tofTo ps fs (k + 1) = none := by
            rw [hstep.out, stepM, if_neg (by rw [HM.out]; decide)]
          have hkr := HKR.out
          rw [tofTo_none hnone n1 (by omega)] at hkr
          rw [hkr]
          exact ⟨tab0, rfl, rfl, rfl, things0_below ((HB.out.setCell (by simp) _).setCell (by simp) _)⟩
        · go_wp2_with fail
          refine (mapPage_any w _ _ T2 p f true _ HS.out HG2.out _ HM.out).mono ?_
          rintro e w4 ⟨T3, rfl, h3, S⟩
          have HS3 := Lib.hid S
          have HD3 := Lib.hid (h3 rfl).1
          have HE3 := Lib.hid (h3 rfl).2
          clear S h3
          go_wp2
          go_roundw
          case rel =>
            refine ⟨k + 1, T3, by omega, by go_num, ?_, HS3⟩
            rw [hstep.out, stepM, if_pos HM.out, HD3.out, HE3.out]
            exact rfl
          case measure => simp [intOf]; omega
      · have HKN : Hid (k = n1) := by show k = n1; omega
        have C7 := own_box (tv_box HS.out)
        have Z7 := own_lt (tv_box HS.out)
        have C8 := own_box (HS.out.own 0 _ rfl)
        have F8 := own_free (HS.out.own 0 _ rfl)
        go_wp2
        refine bodyPost_ret (v := .tuple #[tabV T2, .bool true]) (by simp [results, Try.results35, go_sem, C8]) rfl ?_
        have P3 := own_putAll [.slice T2.Ad T2.D.length T2.cd, .slice T2.Al T2.L.length T2.cl] _ _ 0 (HS.out.own 0 _ rfl)
        have S8 := HS.out.write 0 rfl P3.2 _ P3.1
        have hkr := HKR.out
        have hrt := HRT.out
        rw [HKN.out] at hrt
        rw [hrt] at hkr
        rw [hkr]
        exact ⟨T2, rfl, rfl, rfl, tv_things (P := [_]) S8⟩
  · have hnb : ((n1 : Int) != (n2 : Int)) = true := by simp; omega
    have hk : tofR ps fs = none := by rw [tofR, if_neg (by omega)]
    rw [hk]
    clear hk hl1 hl2
    go_enter Try.func35, Try.ntmps35
    go_wp2
    refine bodyPost_ret (v := .tuple #[.agg #[.slice none 0 0, .slice none 0 0], .bool false]) (by simp [results, Try.results35, go_sem]) rfl ?_
    exact ⟨tab0, rfl, rfl, rfl, things0_below (below_alloc _ _)⟩
end Go.Proofs.Ytaaocnfbbajphaa
