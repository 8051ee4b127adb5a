/- Contract of TableOf in the reference. -/
import Derived.Test.YtaaocnfbbajphaaTc4
namespace Go.Proofs.Ytaaocnfbbajphaa
open Go.RowKit
set_option linter.unusedVariables false
set_option linter.unusedSimpArgs false
attribute [local go_sem ↓] Go.wp_at_zero Go.wp_at_succ

theorem s_MapPage_m (T : Tab) (p f : Int) (wb : Bool) (m : Option DE) (w : World) (hr : RdT w T) (B : Bd T) (hcap : T.D.length ≤ T.cd ∧ T.cd ≤ maxLen) (hm : mpR (T.D, T.E) p f wb = m) :
    Calls Try.prog 8 #[.agg #[.slice T.Ad T.D.length T.cd, .slice T.Al T.L.length T.cl], .int .i64 p, .int .i64 f, .bool wb] w fun e w' => ∃ T' : Tab, e = .returned (.tuple #[.agg #[.slice T'.Ad T'.D.length T'.cd, .slice T'.Al T'.L.length T'.cl], .bool m.isSome]) ∧ T'.D = oD m ∧ T'.E = oE m ∧ Sep w w' T'.things := by
  subst hm; exact s_MapPage_at T p f wb w hr B hcap
/-- the next table in its variable: made behind the call, or ahead of it -/
theorem next_a {w w4 : World} {P : List Thing} {T3 : Tab} (S : Sep w w4 (P ++ T3.things)) :
    Sep w (w4.alloc (.cells #[.slice T3.Ad T3.D.length T3.cd, .slice T3.Al T3.L.length T3.cl] 27)) (P ++ tvT w4.heap.size T3) :=
  tv_in (S.new (below_alloc _ _) (own_bx _ 27 2 #[.slice T3.Ad T3.D.length T3.cd, .slice T3.Al T3.L.length T3.cl] rfl))
theorem next_b {w w4 : World} {P : List Thing} {T3 : Tab} {gn : Nat} {a b : Value} (S : Sep w w4 ((P ++ [bx 27 2 gn [a, b]]) ++ T3.things)) :
    Sep w ((w4.setCell ⟨gn, 0, none⟩ (.slice T3.Ad T3.D.length T3.cd)).setCell ⟨gn, 1, none⟩ (.slice T3.Al T3.L.length T3.cl)) (P ++ tvT gn T3) := by
  have P3 := own_putAll [.slice T3.Ad T3.D.length T3.cd, .slice T3.Al T3.L.length T3.cl] _ _ 0 (S.ownMid 0 rfl)
  have S8 := S.writeMid 0 rfl P3.2 _ P3.1
  rw [List.append_assoc] at S8
  exact S8
theorem next_c {w wE : World} {r0 : Thing} {T2 T3 : Tab} {g gn : Nat} (S : Sep w wE (([r0] ++ tvT g T2) ++ tvT gn T3)) :
    Sep w ((wE.setCell ⟨g, 0, none⟩ (.slice T3.Ad T3.D.length T3.cd)).setCell ⟨g, 1, none⟩ (.slice T3.Al T3.L.length T3.cl)) ([r0] ++ tvT g T3) := by
  have P3 := own_putAll [.slice T3.Ad T3.D.length T3.cd, .slice T3.Al T3.L.length T3.cl] _ _ 0 (S.own 1 _ rfl)
  have S8 := S.write 1 rfl P3.2 _ P3.1
  have S9 : Sep w _ ([r0, bx 27 2 g [.slice T3.Ad T3.D.length T3.cd, .slice T3.Al T3.L.length T3.cl]] ++ T2.things ++ (bx 27 2 gn [.slice T3.Ad T3.D.length T3.cd, .slice T3.Al T3.L.length T3.cl] :: T3.things)) := S8
  have S10 := Sep.dropMid S9
  have S11 := Sep.drop1 (P := [r0, bx 27 2 g [.slice T3.Ad T3.D.length T3.cd, .slice T3.Al T3.L.length T3.cl]]) S10
  exact S11
set_option maxRecDepth 100000 in
set_option maxHeartbeats 8000000 in
theorem s_TableOf_any (A1 : Option Addr) (n1 c1 : Nat) (ps : List Int) (A2 : Option Addr) (n2 c2 : Nat) (fs : List Int) (w : World) (hr1 : Rd w 1 A1 n1 (I ps)) (hn1 : n1 ≤ 1048576) (hr2 : Rd w 1 A2 n2 (I fs)) (hn2 : n2 ≤ 1048576) :
    Calls Try.prog 36 #[.slice A1 n1 c1, .slice A2 n2 c2] w fun e w' => ∃ T' : Tab, e = .returned (.tuple #[tabV T', .bool (tofR ps fs).isSome]) ∧ T'.D = oD (tofR ps fs) ∧ T'.E = oE (tofR ps fs) ∧ Bd T' ∧ Sep w w' T'.things := by
  suffices h : Calls Try.prog 36 #[.slice A1 n1 c1, .slice A2 n2 c2] w fun e w' => ∃ T' : Tab, e = .returned (.tuple #[tabV T', .bool (tofR ps fs).isSome]) ∧ T'.D = oD (tofR ps fs) ∧ T'.E = oE (tofR ps fs) ∧ Sep w w' T'.things from
    h.mono fun e w' ⟨T', h1, h2, h3, h4⟩ => ⟨T', h1, h2, h3, tofR_bd h2 h3, h4⟩
  have hl1 := hr1.len
  have hl2 := hr2.len
  have S1 := (Sep.start w).new (below_alloc w _) (own_bx w 27 2 #[.slice none 0 0, .slice none 0 0] rfl)
  simp only [List.nil_append] at S1
  have HS1 := Lib.hid S1
  clear S1
  by_cases hnn : n1 = n2
  · have HKR : Hid (tofR ps fs = tofTo ps fs n1) := by show tofR ps fs = _; rw [tofR, if_pos (by omega), hl1]
    have hnb : ((n1 : Int) != (n2 : Int)) = false := by simp; omega
    have HNN := Lib.hid hnn
    clear hnn hl1 hl2
    go_enter Try.func36, Try.ntmps36
    go_wp2_with fail
    refine (l4New_any _).mono ?_
    rintro e w3 ⟨T1, rfl, hD1, hE1, R⟩
    have S4 := HS1.out.join R
    have S5 := tv_in (S4.new (below_alloc _ _) (own_bx _ 27 2 #[.slice T1.Ad T1.D.length T1.cd, .slice T1.Al T1.L.length T1.cl] rfl))
    have HS5 := Lib.hid S5
    have HD1 := Lib.hid hD1
    have HE1 := Lib.hid hE1
    clear S4 S5 R hD1 hE1 hnb
    go_wp2
    go_loopw [7, 8, 9] (fun i x y wo => ∃ (k : Nat) (T2 : Tab), k ≤ n1 ∧ i = .int .i64 k ∧ Hid (tofTo ps fs k = some (T2.D, T2.E)) ∧
        Hid (Sep w wo ([bx 27 2 w.heap.size [.slice none 0 0, .slice none 0 0]] ++ tvT w3.heap.size T2))) (fun i _ _ _ => n1 - (intOf i).toNat)
    case atStart => exact ⟨0, T1, Nat.zero_le _, rfl, by rw [HD1.out, HE1.out]; rfl, HS5⟩
    case round =>
      obtain ⟨k, T2, hk, rfl, HRT, HS⟩ := hrel
      have HG2 := Lib.hid (tofTo_good _ _ HRT.out)
      by_cases hlt : k < n1
      · obtain ⟨b1, o1, p, rfl, hbl1, hxp, hc1⟩ := (hr1.keep HS.out.bel).at_ hlt
        obtain ⟨b2, o2, f, rfl, hbl2, hxf, hc2⟩ := (hr2.keep HS.out.bel).at_ (k := k) (by have := HNN.out; omega)
        have h0 : (0 : Int) ≤ (k : Int) := by omega
        have h1 : (k : Int) < (n1 : Int) := by omega
        have h2 : (k : Int) < (n2 : Int) := by have := HNN.out; omega
        obtain ⟨m, hm⟩ : ∃ m, mpR (T2.D, T2.E) p f true = m := ⟨_, rfl⟩
        have hcap : T2.D.length ≤ T2.cd ∧ T2.cd ≤ maxLen := ti_cap ((tv_things HS.out).own 0 _ rfl)
        have hstep : tofTo ps fs (k + 1) = m := by
          rw [tofTo, HRT.out, hxp.out, hxf.out]
          show stepM _ p f true = m
          rw [← hm, mpR, if_pos (goodB_true HG2.out)]
        have Sa := HS.out.below (Below.drew (Below.refl _ _))
        have Sb := (HS.out.new (below_alloc _ _) (own_bx _ 27 2 #[.slice none 0 0, .slice none 0 0] rfl)).below (Below.drew (Below.refl _ _))
        have Ca := own_box (tv_box HS.out)
        have Za := own_lt (tv_box HS.out)
        have Ra := tv_rd Sa
        have Rb := (tv_rd HS.out).keep (below_alloc _ (.cells #[.slice none 0 0, .slice none 0 0] 27)).drew
        have HST := Lib.hid hstep
        have HSA := Lib.hid Sa
        have HSB := Lib.hid Sb
        have HCP := Lib.hid hcap
        have HMM := Lib.hid hm
        have HRA := Lib.hid Ra
        have HRB := Lib.hid Rb
        clear hm hstep hcap Sa Sb Ra Rb
        cases m with
        | none =>
          go_wp2_with fail
          go_region_with (first
            | (go_at_call 8; refine (s_MapPage_m T2 p f true none _ HRA.out (Bd.good HG2.out) HCP.out HMM.out).mono ?_; rintro e w4 ⟨T3, rfl, h3, h4, R⟩; have S4 := HSA.out.join R; have HD3 := Lib.hid h3; have HE3 := Lib.hid h4; have HS4 := Lib.hid S4; clear h3 h4 R S4)
            | (go_at_call 8; refine (s_MapPage_m T2 p f true none _ HRB.out (Bd.good HG2.out) HCP.out HMM.out).mono ?_; rintro e w4 ⟨T3, rfl, h3, h4, R⟩; have S4 := HSB.out.join R; have Cn := own_box (Sep.ownMid S4 0 rfl); have Fn := own_free (Sep.ownMid S4 0 rfl); have Zn := own_lt (Sep.ownMid S4 0 rfl); have HD3 := Lib.hid h3; have HE3 := Lib.hid h4; have HS4 := Lib.hid S4; clear h3 h4 R S4))
          all_goals first
            | (have hE := next_b HS4.out
               clear Cn Fn Zn HS4
               generalize (World.setCell (World.setCell w4 ⟨wr.heap.size, 0, none⟩ (.slice T3.Ad T3.D.length T3.cd)) ⟨wr.heap.size, 1, none⟩ (.slice T3.Al T3.L.length T3.cl)) = wE at hE ⊢
               generalize wr.heap.size = gn at hE ⊢)
            | (have hE := next_a HS4.out
               clear HS4
               generalize (w4.alloc (.cells #[.slice T3.Ad T3.D.length T3.cd, .slice T3.Al T3.L.length T3.cl] 27)) = wE at hE ⊢
               generalize w4.heap.size = gn at hE ⊢)
          all_goals
            have C1 := own_box (hE.own 0 _ rfl)
            have F1 := own_free (hE.own 0 _ rfl)
            have HB := Lib.hid hE.bel
            clear hE Ca Za
            go_wp2
            refine bodyPost_ret (v := .tuple #[.agg #[.slice none 0 0, .slice none 0 0], .bool false]) (by simp [results, Try.results36, go_sem, C1]) rfl ?_
            have hkr := HKR.out
            rw [tofTo_none HST.out n1 (by omega)] at hkr
            rw [hkr]
            exact ⟨tab0, rfl, rfl, rfl, things0_below ((HB.out.setCell (by simp) _).setCell (by simp) _)⟩
        | some y =>
          go_wp2_with fail
          go_region_with (first
            | (go_at_call 8; refine (s_MapPage_m T2 p f true (some y) _ HRA.out (Bd.good HG2.out) HCP.out HMM.out).mono ?_; rintro e w4 ⟨T3, rfl, h3, h4, R⟩; have S4 := HSA.out.join R; have HD3 := Lib.hid h3; have HE3 := Lib.hid h4; have HS4 := Lib.hid S4; clear h3 h4 R S4)
            | (go_at_call 8; refine (s_MapPage_m T2 p f true (some y) _ HRB.out (Bd.good HG2.out) HCP.out HMM.out).mono ?_; rintro e w4 ⟨T3, rfl, h3, h4, R⟩; have S4 := HSB.out.join R; have Cn := own_box (Sep.ownMid S4 0 rfl); have Fn := own_free (Sep.ownMid S4 0 rfl); have Zn := own_lt (Sep.ownMid S4 0 rfl); have HD3 := Lib.hid h3; have HE3 := Lib.hid h4; have HS4 := Lib.hid S4; clear h3 h4 R S4))
          all_goals first
            | (have hE := next_b HS4.out
               clear Cn Fn Zn HS4
               generalize (World.setCell (World.setCell w4 ⟨wr.heap.size, 0, none⟩ (.slice T3.Ad T3.D.length T3.cd)) ⟨wr.heap.size, 1, none⟩ (.slice T3.Al T3.L.length T3.cl)) = wE at hE ⊢
               generalize wr.heap.size = gn at hE ⊢)
            | (have hE := next_a HS4.out
               clear HS4
               generalize (w4.alloc (.cells #[.slice T3.Ad T3.D.length T3.cd, .slice T3.Al T3.L.length T3.cl] 27)) = wE at hE ⊢
               generalize w4.heap.size = gn at hE ⊢)
          all_goals
            have C7 := own_box (tv_box hE)
            have Z7 := own_lt (tv_box hE)
            have C1 := own_box (hE.own 1 _ rfl)
            have F1 := own_free (hE.own 1 _ rfl)
            have hE2 := next_c hE
            have HE2 := Lib.hid hE2
            clear hE hE2 Ca Za
            go_wp2
            go_roundw
            case rel => exact ⟨k + 1, T3, by omega, by go_num, by rw [HST.out, HD3.out, HE3.out]; exact rfl, HE2⟩
            case measure => simp [intOf]; omega
      · have HKN : Hid (k = n1) := by show k = n1; omega
        have C7 := own_box (tv_box HS.out)
        have Z7 := own_lt (tv_box HS.out)
        have C8 := own_box (HS.out.own 0 _ rfl)
        have F8 := own_free (HS.out.own 0 _ rfl)
        go_wp2
        refine bodyPost_ret (v := .tuple #[tabV T2, .bool true]) (by simp [results, Try.results36, go_sem, C8]) rfl ?_
        have P3 := own_putAll [.slice T2.Ad T2.D.length T2.cd, .slice T2.Al T2.L.length T2.cl] _ _ 0 (HS.out.own 0 _ rfl)
        have S8 := HS.out.write 0 rfl P3.2 _ P3.1
        have hkr := HKR.out
        have hrt := HRT.out
        rw [HKN.out] at hrt
        rw [hrt] at hkr
        rw [hkr]
        exact ⟨T2, rfl, rfl, rfl, tv_things (P := [_]) S8⟩
  · have hnb : ((n1 : Int) != (n2 : Int)) = true := by simp; omega
    have hk : tofR ps fs = none := by rw [tofR, if_neg (by omega)]
    rw [hk]
    clear hk hl1 hl2
    go_enter Try.func36, Try.ntmps36
    go_wp2
    refine bodyPost_ret (v := .tuple #[.agg #[.slice none 0 0, .slice none 0 0], .bool false]) (by simp [results, Try.results36, go_sem]) rfl ?_
    exact ⟨tab0, rfl, rfl, rfl, things0_below (below_alloc _ _)⟩
end Go.Proofs.Ytaaocnfbbajphaa
