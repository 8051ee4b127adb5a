/- Contracts of ProtectPage, MapRun, TableOf in the reference. Tables not too large. -/
import Derived.Test.YtaaocnfbbajphaaTb4
namespace Go.Proofs.Ytaaocnfbbajphaa
open Go.RowKit
set_option linter.unusedVariables false
set_option linter.unusedSimpArgs false
attribute [local go_sem ↓] Go.wp_at_zero Go.wp_at_succ

theorem hasOk_no {D : List Int} {E : List (List REntry)} {p : Int} (h : pageOk D E p = false) : hasOk D E p = false := by
  simp only [pageOk, Bool.and_eq_false_iff] at h
  rcases h with h | h <;> simp [hasOk, h]
set_option maxRecDepth 100000 in
set_option maxHeartbeats 4000000 in
theorem s_ProtectPage_any (T : Tab) (p : Int) (wb : Bool) (w : World) (hr : RdT w T) (B : Bd T) (hcap : T.D.length ≤ T.cd ∧ T.cd ≤ maxLen) (D : List Int) (E : List (List REntry)) (hD : T.D = D) (hE : T.E = E) :
    Calls Try.prog 31 #[tabV T, .int .i64 p, .bool wb] w fun e w' => ∃ T' : Tab, e = .returned (.tuple #[tabV T', .bool (hasOk D E p)]) ∧ T'.D = prD D E p ∧ T'.E = prE D E p wb ∧ Bd T' ∧ Sep w w' T'.things := by
  subst hD hE
  have HRD := Lib.hid hr
  have HC := Lib.hid hcap
  have S0 := (Sep.start w).new (below_alloc w _) (own_bx w 27 2 #[.slice T.Ad T.D.length T.cd, .slice T.Al T.L.length T.cl] rfl)
  have S1 := S0.new (below_alloc _ _) (own_bx _ 27 2 #[.slice none 0 0, .slice none 0 0] rfl)
  simp only [List.nil_append, List.cons_append, size_alloc] at S1
  have HS1 := Lib.hid S1
  clear S0 S1 hr hcap
  unfold prD prE
  cases h1 : pageOk T.D T.E p
  all_goals have H1 := Lib.hid h1
  · rw [hasOk_no h1]
    clear h1
    simp only [Bool.false_eq_true, if_false]
    go_enter Try.func31, Try.ntmps31
    go_wp2_with fail
    refine (l4Page_at T p _ (HRD.out.keep HS1.out.bel) B HC.out _ H1.out).mono ?_
    rintro e w1 ⟨rfl, hb⟩
    have C1 := own_box ((HS1.out.below hb).own 1 _ rfl)
    have F1 := own_free ((HS1.out.below hb).own 1 _ rfl)
    have HB := Lib.hid (HS1.out.below hb).bel
    clear hb
    go_wp2
    refine bodyPost_ret (v := .tuple #[.agg #[.slice none 0 0, .slice none 0 0], .bool false]) (by simp [results, Try.results31, go_sem, C1]) rfl ?_
    exact ⟨tab0, rfl, rfl, rfl, Bd.nil_, things0_below ((HB.out.setCell (by simp) _).setCell (by simp) _)⟩
  · have HG := Lib.hid (pageOk_good h1).1
    have h1g : goodB T.D T.E = true := goodB_true HG.out
    obtain ⟨q, rfl, hq⟩ := (pageOk_good h1).2
    have hqi : inB (q : Int) 0 15 = true := inB_iff.2 (by omega)
    obtain ⟨⟨x, xw⟩, he⟩ : ∃ e0, getE T.D T.E q = e0 := ⟨_, rfl⟩
    have hf : frO T.D T.E q = x := by unfold frO; rw [he]
    have HE0 := Lib.hid he
    have hk : hasOk T.D T.E q = (x != -1) := by simp [hasOk, h1g, hqi, hf]
    rw [hk, Int.toNat_natCast, hf]
    have HF := Lib.hid hf
    by_cases hn : x = -1
    · subst hn
      simp only [bne_self_eq_false, Bool.false_eq_true, if_false]
      have hfd := fieldE (-1) xw
      clear h1 h1g hqi he hf hk
      go_enter Try.func31, Try.ntmps31
      go_wp2_with fail
      refine (l4Page_at T q _ (HRD.out.keep HS1.out.bel) B HC.out _ H1.out).mono ?_
      rintro e w1 ⟨rfl, hb⟩
      have C0 := own_box ((HS1.out.below hb).own 0 _ rfl)
      have HS2 := Lib.hid (HS1.out.below hb)
      clear hb
      go_wp2_with fail
      refine (l4Get_at T q _ xw _ (HRD.out.keep HS2.out.bel) HG.out hq HE0.out).mono ?_
      rintro e w2 ⟨rfl, hb⟩
      have C1 := own_box ((HS2.out.below hb).own 1 _ rfl)
      have F1 := own_free ((HS2.out.below hb).own 1 _ rfl)
      have HB := Lib.hid (HS2.out.below hb).bel
      clear hb C0
      go_wp2
      refine bodyPost_ret (v := .tuple #[.agg #[.slice none 0 0, .slice none 0 0], .bool false]) (by simp [results, Try.results31, go_sem, C1]) rfl ?_
      exact ⟨tab0, rfl, rfl, rfl, Bd.nil_, things0_below ((HB.out.setCell (by simp) _).setCell (by simp) _)⟩
    · have hne : (x != -1) = true := by simp [hn]
      have hne2 : (x == -1) = false := by simp [hn]
      rw [hne]
      simp only [if_true]
      have HGD := Lib.hid (HG.out.protect hq (by rw [hf]; exact hn) wb)
      have hfd := fieldE x xw
      clear h1 h1g hqi he hf hk hn hne
      go_enter Try.func31, Try.ntmps31
      go_wp2_with fail
      refine (l4Page_at T q _ (HRD.out.keep HS1.out.bel) B HC.out _ H1.out).mono ?_
      rintro e w1 ⟨rfl, hb⟩
      have C0 := own_box ((HS1.out.below hb).own 0 _ rfl)
      have HS2 := Lib.hid (HS1.out.below hb)
      clear hb
      go_wp2_with fail
      refine (l4Get_at T q x xw _ (HRD.out.keep HS2.out.bel) HG.out hq HE0.out).mono ?_
      rintro e w2 ⟨rfl, hb⟩
      clear C0
      have S3d := (HS2.out.below hb).below (Below.drew (Below.refl _ _))
      have C0 := own_box (S3d.own 0 _ rfl)
      have HS3 := Lib.hid (HS2.out.below hb)
      clear hb
      go_wp2_with fail
      go_region_with (first
        | (go_at_call 42; refine (l4Get_at T q x xw _ (HRD.out.keep S3d.bel) HG.out hq HE0.out).mono ?_; rintro e w3 ⟨rfl, hb3⟩; have S4 := S3d.below hb3; have D0 := own_box (S4.own 0 _ rfl))
        | (go_at_call 43; refine (l4Map_any T q x wb _ (HRD.out.keep S4.bel) B HG.out hq).mono ?_; rintro e w4 ⟨T1, rfl, hD1, hE1, R⟩; have HDD := Lib.hid hD1; have HEE := Lib.hid hE1; clear hD1 hE1; have S5 := S4.join R; have C1 := own_box (S5.own 1 _ rfl); have F1 := own_free (S5.own 1 _ rfl)))
      all_goals
        have HS5 := Lib.hid S5
        clear S3d S4 S5 R C0 D0
        go_wp2
        refine bodyPost_ret (v := .tuple #[tabV T1, .bool true]) (by simp [results, Try.results31, go_sem, C1]) rfl ?_
        have P3 := own_putAll [.slice T1.Ad T1.D.length T1.cd, .slice T1.Al T1.L.length T1.cl] _ _ 0 (HS5.out.own 1 _ rfl)
        have S8 := HS5.out.write 1 rfl P3.2 _ P3.1
        have hgd := HGD.out
        rw [HF.out] at hgd
        exact ⟨T1, rfl, HDD.out, HEE.out, Bd.good (by rw [HDD.out, HEE.out]; exact hgd), S8.tail.tail⟩

theorem Sep.dropMid {W0 w : World} {P Q : List Thing} : ∀ {M : List Thing}, Sep W0 w (P ++ M ++ Q) → Sep W0 w (P ++ Q)
  | [], S => by simpa using S
  | t :: M, S => by
    refine Sep.dropMid (M := M) ?_
    rw [List.append_assoc] at S ⊢
    exact Sep.drop1 S
/-- what of a table is the call's own behind k steps -/
def ownK (k : Nat) (T : Tab) : List Thing := if k = 0 then [] else T.things
set_option maxRecDepth 100000 in
set_option maxHeartbeats 4000000 in
theorem s_MapRun_any (T : Tab) (p f c : Int) (wb : Bool) (w : World) (hr : RdT w T) (B : Bd T) (hcap : T.D.length ≤ T.cd ∧ T.cd ≤ maxLen) (D : List Int) (E : List (List REntry)) (hD : T.D = D) (hE : T.E = E) (wfp : (Lit.int .i64 p).wf = true) (wff : (Lit.int .i64 f).wf = true) :
    Calls Try.prog 28 #[tabV T, .int .i64 p, .int .i64 f, .int .i64 c, .bool wb] w fun e w' => ∃ T' : Tab, e = .returned (.tuple #[tabV T', .bool (runR (D, E) p f c wb).isSome]) ∧ T'.D = oD (runR (D, E) p f c wb) ∧ T'.E = oE (runR (D, E) p f c wb) ∧ Bd T' ∧ Sep w w' T'.things := by
  suffices h : Calls Try.prog 28 #[tabV T, .int .i64 p, .int .i64 f, .int .i64 c, .bool wb] w fun e w' => ∃ T' : Tab, e = .returned (.tuple #[tabV T', .bool (runR (D, E) p f c wb).isSome]) ∧ T'.D = oD (runR (D, E) p f c wb) ∧ T'.E = oE (runR (D, E) p f c wb) ∧ Sep w w' T'.things from
    h.mono fun e w' ⟨T', h1, h2, h3, h4⟩ => ⟨T', h1, h2, h3, runR_bd h2 h3, h4⟩
  subst hD hE
  have HRD := Lib.hid hr
  have HC := Lib.hid hcap
  have S0 := (Sep.start w).new (below_alloc w _) (own_bx w 27 2 #[.slice T.Ad T.D.length T.cd, .slice T.Al T.L.length T.cl] rfl)
  have S1 := S0.new (below_alloc _ _) (own_bx _ 27 2 #[.slice none 0 0, .slice none 0 0] rfl)
  simp only [List.nil_append, List.cons_append, size_alloc] at S1
  have HS1 := Lib.hid S1
  have HPB := Lib.hid (wf_bd wfp)
  have HFB := Lib.hid (wf_bd wff)
  clear S0 S1 hr wfp wff hcap
  cases h1 : goodB T.D T.E
  all_goals have H1 := Lib.hid h1
  · have hk : runR (T.D, T.E) p f c wb = none := by simp [runR, h1]
    rw [hk]
    clear h1 hk
    go_enter Try.func28, Try.ntmps28
    go_wp2_with fail
    refine (l4Good_eq T _ (HRD.out.keep HS1.out.bel) B.d B.n B.l HC.out _ H1.out).mono ?_
    rintro e w1 ⟨rfl, hb⟩
    have C1 := own_box ((HS1.out.below hb).own 1 _ rfl)
    have F1 := own_free ((HS1.out.below hb).own 1 _ rfl)
    have HB := Lib.hid (HS1.out.below hb).bel
    clear hb
    go_wp2
    refine bodyPost_ret (v := .tuple #[.agg #[.slice none 0 0, .slice none 0 0], .bool false]) (by simp [results, Try.results28, go_sem, C1]) rfl ?_
    exact ⟨tab0, rfl, rfl, rfl, things0_below ((HB.out.setCell (by simp) _).setCell (by simp) _)⟩
  · have HG := Lib.hid (goodB_iff.1 h1)
    cases h2 : inB c 1 16
    all_goals have H2 := Lib.hid h2
    · have hk : runR (T.D, T.E) p f c wb = none := by simp [runR, h2]
      rw [hk]
      clear h1 h2 hk
      go_enter Try.func28, Try.ntmps28
      go_wp2_with fail
      refine (l4Good_eq T _ (HRD.out.keep HS1.out.bel) B.d B.n B.l HC.out _ H1.out).mono ?_
      rintro e w1 ⟨rfl, hb⟩
      have C1 := own_box ((HS1.out.below hb).own 1 _ rfl)
      have F1 := own_free ((HS1.out.below hb).own 1 _ rfl)
      have HB := Lib.hid (HS1.out.below hb).bel
      clear hb
      go_wp2_with fail
      refine (l1In_eq H2.out _).mono ?_
      rintro e w2 ⟨rfl, rfl⟩
      go_wp2
      refine bodyPost_ret (v := .tuple #[.agg #[.slice none 0 0, .slice none 0 0], .bool false]) (by simp [results, Try.results28, go_sem, C1]) rfl ?_
      exact ⟨tab0, rfl, rfl, rfl, things0_below ((HB.out.setCell (by simp) _).setCell (by simp) _)⟩
    · obtain ⟨n, rfl⟩ := Int.eq_ofNat_of_zero_le (show 0 ≤ c by have := (inB_iff.1 h2).1; omega)
      have hn16 : n ≤ 16 := by have := (inB_iff.1 h2).2; omega
      have hn1 : 1 ≤ n := by have := (inB_iff.1 h2).1; omega
      have HKR : Hid (runR (T.D, T.E) p f (n : Int) wb = runTo (T.D, T.E) p f wb n) := by show runR _ _ _ _ _ = _; simp [runR, h1, h2]
      clear h1 h2
      go_enter Try.func28, Try.ntmps28
      go_wp2_with fail
      refine (l4Good_eq T _ (HRD.out.keep HS1.out.bel) B.d B.n B.l HC.out _ H1.out).mono ?_
      rintro e w1 ⟨rfl, hb⟩
      have C0 := own_box ((HS1.out.below hb).own 0 _ rfl)
      have HS2 := Lib.hid (HS1.out.below hb)
      clear hb
      go_wp2_with fail
      refine (l1In_eq H2.out _).mono ?_
      rintro e w2 ⟨rfl, rfl⟩
      have S3 := HS2.out.new (below_alloc _ _) (own_bx _ 27 2 #[.slice T.Ad T.D.length T.cd, .slice T.Al T.L.length T.cl] rfl)
      simp only [List.nil_append, List.cons_append] at S3
      have HS3 := Lib.hid S3
      clear S3
      go_wp2
      clear C0
      go_loopw [13, 14, 15] (fun i x y wo => ∃ (k : Nat) (T2 : Tab), k ≤ n ∧ i = .int .i64 k ∧ Hid (runTo (T.D, T.E) p f wb k = some (T2.D, T2.E)) ∧ Hid (Good T2.D T2.E) ∧ Hid (k = 0 ∨ (0 ≤ p ∧ p ≤ 15 ∧ 0 ≤ f ∧ f ≤ 15)) ∧ Hid (RdT wo T2) ∧ Hid (T2.D.length ≤ T2.cd ∧ T2.cd ≤ maxLen) ∧
          Hid (Sep w wo ([bx 27 2 w.heap.size [.slice T.Ad T.D.length T.cd, .slice T.Al T.L.length T.cl], bx 27 2 (w.heap.size + 1) [.slice none 0 0, .slice none 0 0], bx 27 2 w1.heap.size [.slice T2.Ad T2.D.length T2.cd, .slice T2.Al T2.L.length T2.cl]] ++ ownK k T2))) (fun i _ _ _ => n - (intOf i).toNat)
      case atStart => exact ⟨0, T, Nat.zero_le _, rfl, by rfl, HG.out, .inl rfl, HRD.out.keep HS3.out.bel, HC.out, HS3⟩
      case round =>
        obtain ⟨k, T2, hk, rfl, HRT, HG2, HK0, HR2, HC2, HS⟩ := hrel
        by_cases hlt : k < n
        · have hp1 : -9223372036854775808 ≤ p + (k : Int) := by have := HPB.out; omega
          have hp2 : p + (k : Int) ≤ 9223372036854775807 := by have := HPB.out; rcases HK0.out with h | h <;> omega
          have hf1 : -9223372036854775808 ≤ f + (k : Int) := by have := HFB.out; omega
          have hf2 : f + (k : Int) ≤ 9223372036854775807 := by have := HFB.out; rcases HK0.out with h | h <;> omega
          have C2 := own_box (HS.out.own 2 _ rfl)
          obtain ⟨m, hm⟩ : ∃ m, mpR (T2.D, T2.E) (p + k) (f + k) wb = m := ⟨_, rfl⟩
          have hcall := s_MapPage_at T2 (p + k) (f + k) wb _ HR2.out (Bd.good HG2.out) HC2.out
          rw [hm] at hcall
          have hstep : runTo (T.D, T.E) p f wb (k + 1) = m := by
            rw [runTo, HRT.out]
            show stepM _ _ _ _ = m
            rw [← hm, mpR, if_pos (goodB_true HG2.out)]
          have HST := Lib.hid hstep
          have HMM := Lib.hid hm
          have HCALL := Lib.hid hcall
          clear hm hcall hstep
          cases m with
          | none =>
            go_wp2_with fail
            refine HCALL.out.mono ?_
            rintro e w4 ⟨T3, rfl, h1, h2, R⟩
            have C1 := own_box ((HS.out.below R.bel).own 1 _ rfl)
            have F1 := own_free ((HS.out.below R.bel).own 1 _ rfl)
            have Z1 := own_lt ((HS.out.below R.bel).own 1 _ rfl)
            have HB := Lib.hid (HS.out.below R.bel).bel
            have HD3 := Lib.hid h1
            have HE3 := Lib.hid h2
            clear R h1 h2 C2
            go_wp2
            refine bodyPost_ret (v := .tuple #[.agg #[.slice none 0 0, .slice none 0 0], .bool false]) (by simp [results, Try.results28, go_sem, C1, Z1]) rfl ?_
            have hkr := HKR.out
            rw [runTo_none HST.out n (by omega)] at hkr
            rw [hkr]
            exact ⟨tab0, rfl, rfl, rfl, things0_below (((HB.out.setCell (by simp) _).setCell (by simp) _).alloc (by simp; exact HB.out.size) _)⟩
          | some y =>
            go_wp2_with fail
            refine HCALL.out.mono ?_
            rintro e w4 ⟨T3, rfl, h1, h2, R⟩
            have S4 := HS.out.join R
            have C1 := own_box (S4.own 2 _ rfl)
            have F1 := own_free (S4.own 2 _ rfl)
            have Z1 := own_lt (S4.own 2 _ rfl)
            have P3 := own_putAll [.slice T3.Ad T3.D.length T3.cd, .slice T3.Al T3.L.length T3.cl] _ _ 0 (S4.own 2 _ rfl)
            have S5 := (S4.write 2 rfl P3.2 _ P3.1).below (below_alloc _ (.cells #[.slice T3.Ad T3.D.length T3.cd, .slice T3.Al T3.L.length T3.cl] 27))
            have S6 : Sep w _ ([bx 27 2 w.heap.size [.slice T.Ad T.D.length T.cd, .slice T.Al T.L.length T.cl], bx 27 2 (w.heap.size + 1) [.slice none 0 0, .slice none 0 0], bx 27 2 w1.heap.size [.slice T3.Ad T3.D.length T3.cd, .slice T3.Al T3.L.length T3.cl]] ++ ownK k T2 ++ T3.things) := S5
            have S7 := Sep.dropMid S6
            have HS7 := Lib.hid S7
            have HD3 := Lib.hid h1
            have HE3 := Lib.hid h2
            have HG3 := Lib.hid (show Good T3.D T3.E by rw [h1, h2]; exact runTo_good (x := (T.D, T.E)) HG.out _ _ HST.out)
            clear R h1 h2 C2 S4 S5 S6 S7 P3
            go_wp2
            go_roundw
            case rel =>
              refine ⟨k + 1, T3, by omega, by go_num, ?_, HG3.out, ?_, Sep.rdT (Sep.mid (P := [_, _, _]) (Q := []) (by rw [List.append_nil]; exact HS7.out)), ?_, ?_⟩
              · rw [HST.out, HD3.out, HE3.out]; exact rfl
              · right
                have hst := HST.out
                have hmo : mapOk T2.D T2.E (p + k) (f + k) = true := by
                  cases hmm : mapOk T2.D T2.E (p + k) (f + k)
                  · have := HMM.out
                    rw [mpR_no2 (x := (T2.D, T2.E)) hmm] at this; cases this
                  · rfl
                simp only [mapOk, Bool.and_eq_true] at hmo
                have h5 := inB_iff.1 hmo.1
                have h6 := inB_iff.1 hmo.2.1
                rcases HK0.out with h | h
                · subst h; simp at h5 h6; omega
                · exact h
              · exact ti_cap ((Sep.mid (P := [_, _, _]) (Q := []) (M := T3.things) (by rw [List.append_nil]; exact HS7.out)).own 0 _ rfl)
              · show Sep w _ (_ ++ ownK (k + 1) T3)
                rw [ownK, if_neg (by omega)]
                exact HS7.out
            case measure => simp [intOf]; omega
        · have HKN : Hid (k = n) := by show k = n; omega
          have C7 := own_box (HS.out.own 2 _ rfl)
          have Z7 := own_lt (HS.out.own 2 _ rfl)
          have C8 := own_box (HS.out.own 1 _ rfl)
          have F8 := own_free (HS.out.own 1 _ rfl)
          go_wp2
          refine bodyPost_ret (v := .tuple #[tabV T2, .bool true]) (by simp [results, Try.results28, go_sem, C8]) rfl ?_
          have P3 := own_putAll [.slice T2.Ad T2.D.length T2.cd, .slice T2.Al T2.L.length T2.cl] _ _ 0 (HS.out.own 1 _ rfl)
          have S8 := HS.out.write 1 rfl P3.2 _ P3.1
          have hkr := HKR.out
          have hrt := HRT.out
          rw [HKN.out] at hrt
          rw [hrt] at hkr
          rw [hkr]
          have S9 := S8.tail.tail.tail
          refine ⟨T2, rfl, rfl, rfl, ?_⟩
          have e : ownK k T2 = T2.things := by rw [ownK, if_neg (by have := HKN.out; omega)]
          rw [← e]
          exact S9
end Go.Proofs.Ytaaocnfbbajphaa
