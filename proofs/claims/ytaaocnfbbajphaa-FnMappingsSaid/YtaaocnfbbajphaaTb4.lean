/- Contracts of MapPage, ProtectPage, MapRun, TableOf in the reference. Tables not too large. -/
import Derived.Test.YtaaocnfbbajphaaTa4
import Derived.Test.YtaaocnfbbajphaaTl
import Derived.Deep.RegionWith
namespace Go.Proofs.Ytaaocnfbbajphaa
open Go.RowKit
set_option linter.unusedVariables false
set_option linter.unusedSimpArgs false

theorem fieldE (f : Int) (fw : Bool) : ∀ w : World, (Instr.field 67 (.agg #[.int .i64 f, .bool fw]) 0).run Try.prog w = .ok (.int .i64 f) w := fun _ => by kernel_rfl
theorem mpR_no {x : DE} {p f : Int} {wb : Bool} (h : goodB x.1 x.2 = false) : mpR x p f wb = none := by rw [mpR, h]; rfl
theorem mpR_no2 {x : DE} {p f : Int} {wb : Bool} (h : mapOk x.1 x.2 p f = false) : mpR x p f wb = none := by
  rw [mpR]; split
  · rw [stepM, if_neg (by rw [h]; decide)]
  · rfl
theorem mpR_yes {D : List Int} {E : List (List REntry)} {p f : Int} {wb : Bool} (h : goodB D E = true) (h2 : mapOk D E p f = true) : mpR (D, E) p f wb = some (mapD D E p.toNat, mapL D E p.toNat ⟨f, wb⟩) := by
  rw [mpR, if_pos h, stepM, if_pos h2]
set_option maxRecDepth 100000 in
set_option maxHeartbeats 4000000 in
theorem s_MapPage_at (T : Tab) (p f : Int) (wb : Bool) (w : World) (hr : RdT w T) (B : Bd T) (hcap : T.D.length ≤ T.cd ∧ T.cd ≤ maxLen) :
    Calls Try.prog 8 #[tabV T, .int .i64 p, .int .i64 f, .bool wb] w fun e w' => ∃ T' : Tab, e = .returned (.tuple #[tabV T', .bool (mpR (T.D, T.E) p f wb).isSome]) ∧ T'.D = oD (mpR (T.D, T.E) p f wb) ∧ T'.E = oE (mpR (T.D, T.E) p f wb) ∧ Sep w w' T'.things := by
  have HRD := Lib.hid hr
  have HC := Lib.hid hcap
  have S0 := (Sep.start w).new (below_alloc w _) (own_bx w 27 2 #[.slice T.Ad T.D.length T.cd, .slice T.Al T.L.length T.cl] rfl)
  have S1 := S0.new (below_alloc _ _) (own_bx _ 27 2 #[.slice none 0 0, .slice none 0 0] rfl)
  simp only [List.nil_append, List.cons_append, size_alloc] at S1
  have HS1 := Lib.hid S1
  clear S0 S1 hr hcap
  cases h1 : pageOk T.D T.E p
  all_goals have H1 := Lib.hid h1
  · have hk : mpR (T.D, T.E) p f wb = none := by
      simp only [pageOk, Bool.and_eq_false_iff] at h1
      rcases h1 with h | h
      · exact mpR_no h
      · exact mpR_no2 (by simp [mapOk, h])
    rw [hk]
    clear h1 hk
    go_enter Try.func8, Try.ntmps8
    go_wp2_with fail
    refine (l4Page_at T p _ (HRD.out.keep HS1.out.bel) B HC.out _ H1.out).mono ?_
    rintro e w1 ⟨rfl, hb⟩
    have C1 := own_box ((HS1.out.below hb).own 1 _ rfl)
    have F1 := own_free ((HS1.out.below hb).own 1 _ rfl)
    have HB := Lib.hid (HS1.out.below hb).bel
    clear hb
    go_wp2
    refine bodyPost_ret (v := .tuple #[.agg #[.slice none 0 0, .slice none 0 0], .bool false]) (by simp [results, Try.results8, go_sem, C1]) rfl ?_
    exact ⟨tab0, rfl, rfl, rfl, things0_below ((HB.out.setCell (by simp) _).setCell (by simp) _)⟩
  · have HG := Lib.hid (pageOk_good h1).1
    have h1g : goodB T.D T.E = true := goodB_true HG.out
    obtain ⟨q, rfl, hq⟩ := (pageOk_good h1).2
    have hqi : inB (q : Int) 0 15 = true := inB_iff.2 (by omega)
    cases h2 : inB f 0 15
    all_goals have H2 := Lib.hid h2
    · have hk : mpR (T.D, T.E) q f wb = none := mpR_no2 (by simp [mapOk, h2])
      rw [hk]
      clear h1 h2 hk h1g hqi
      go_enter Try.func8, Try.ntmps8
      go_wp2_with fail
      refine (l4Page_at T q _ (HRD.out.keep HS1.out.bel) B HC.out _ H1.out).mono ?_
      rintro e w1 ⟨rfl, hb⟩
      have C1 := own_box ((HS1.out.below hb).own 1 _ rfl)
      have F1 := own_free ((HS1.out.below hb).own 1 _ rfl)
      have HB := Lib.hid (HS1.out.below hb).bel
      clear hb
      go_wp2_with fail
      refine (l1In_eq H2.out _).mono ?_
      rintro e w2 ⟨rfl, rfl⟩
      go_wp2
      refine bodyPost_ret (v := .tuple #[.agg #[.slice none 0 0, .slice none 0 0], .bool false]) (by simp [results, Try.results8, go_sem, C1]) rfl ?_
      exact ⟨tab0, rfl, rfl, rfl, things0_below ((HB.out.setCell (by simp) _).setCell (by simp) _)⟩
    · obtain ⟨⟨x, xw⟩, he⟩ : ∃ e0, getE T.D T.E q = e0 := ⟨_, rfl⟩
      have hf : frO T.D T.E q = x := by unfold frO; rw [he]
      have HE0 := Lib.hid he
      by_cases hn : x = -1
      · have hmo : mapOk T.D T.E q f = true := by simp [mapOk, hqi, h2, hf, hn]
        rw [mpR_yes h1g hmo, Int.toNat_natCast]
        subst hn
        have hfd := fieldE (-1) xw
        clear h1 h2 h1g hqi he hf hmo
        go_enter Try.func8, Try.ntmps8
        go_wp2_with fail
        refine (l4Page_at T q _ (HRD.out.keep HS1.out.bel) B HC.out _ H1.out).mono ?_
        rintro e w1 ⟨rfl, hb⟩
        have C0 := own_box ((HS1.out.below hb).own 0 _ rfl)
        have HS2 := Lib.hid (HS1.out.below hb)
        clear hb
        go_wp2_with fail
        refine (l1In_eq H2.out _).mono ?_
        rintro e w2 ⟨rfl, rfl⟩
        go_wp2_with fail
        refine (l4Get_at T q _ xw _ (HRD.out.keep HS2.out.bel) HG.out hq HE0.out).mono ?_
        rintro e w2 ⟨rfl, hb⟩
        clear C0
        have C0 := own_box ((HS2.out.below hb).own 0 _ rfl)
        have HS3 := Lib.hid (HS2.out.below hb)
        clear hb
        go_wp2_with fail
        refine (l4Map_any T q f wb _ (HRD.out.keep HS3.out.bel) B HG.out hq).mono ?_
        rintro e w3 ⟨T1, rfl, hD1, hE1, R⟩
        have S4 := HS3.out.join R
        have C1 := own_box (S4.own 1 _ rfl)
        have F1 := own_free (S4.own 1 _ rfl)
        have HS4 := Lib.hid S4
        have HD1 := Lib.hid hD1
        have HE1 := Lib.hid hE1
        clear S4 R C0 hD1 hE1
        go_wp2
        refine bodyPost_ret (v := .tuple #[tabV T1, .bool true]) (by simp [results, Try.results8, go_sem, C1]) rfl ?_
        have P3 := own_putAll [.slice T1.Ad T1.D.length T1.cd, .slice T1.Al T1.L.length T1.cl] _ _ 0 (HS4.out.own 1 _ rfl)
        have S8 := HS4.out.write 1 rfl P3.2 _ P3.1
        exact ⟨T1, rfl, HD1.out, HE1.out, S8.tail.tail⟩
      · have hk : mpR (T.D, T.E) q f wb = none := mpR_no2 (by simp [mapOk, hf, hn])
        rw [hk]
        have hne : (x != -1) = true := by simp [hn]
        have hfd := fieldE x xw
        clear h1 h2 hk h1g hqi he hf hn
        go_enter Try.func8, Try.ntmps8
        go_wp2_with fail
        refine (l4Page_at T q _ (HRD.out.keep HS1.out.bel) B HC.out _ H1.out).mono ?_
        rintro e w1 ⟨rfl, hb⟩
        have C0 := own_box ((HS1.out.below hb).own 0 _ rfl)
        have HS2 := Lib.hid (HS1.out.below hb)
        clear hb
        go_wp2_with fail
        refine (l1In_eq H2.out _).mono ?_
        rintro e w2 ⟨rfl, rfl⟩
        go_wp2_with fail
        refine (l4Get_at T q x xw _ (HRD.out.keep HS2.out.bel) HG.out hq HE0.out).mono ?_
        rintro e w2 ⟨rfl, hb⟩
        have C1 := own_box ((HS2.out.below hb).own 1 _ rfl)
        have F1 := own_free ((HS2.out.below hb).own 1 _ rfl)
        have HB := Lib.hid (HS2.out.below hb).bel
        clear hb C0
        go_wp2
        refine bodyPost_ret (v := .tuple #[.agg #[.slice none 0 0, .slice none 0 0], .bool false]) (by simp [results, Try.results8, go_sem, C1]) rfl ?_
        exact ⟨tab0, rfl, rfl, rfl, things0_below ((HB.out.setCell (by simp) _).setCell (by simp) _)⟩
theorem s_MapPage_any (T : Tab) (p f : Int) (wb : Bool) (w : World) (hr : RdT w T) (B : Bd T) (hcap : T.D.length ≤ T.cd ∧ T.cd ≤ maxLen) (D : List Int) (E : List (List REntry)) (hD : T.D = D) (hE : T.E = E) (_ : (Lit.int .i64 p).wf = true) (_ : (Lit.int .i64 f).wf = true) :
    Calls Try.prog 8 #[tabV T, .int .i64 p, .int .i64 f, .bool wb] w fun e w' => ∃ T' : Tab, e = .returned (.tuple #[tabV T', .bool (mpR (D, E) p f wb).isSome]) ∧ T'.D = oD (mpR (D, E) p f wb) ∧ T'.E = oE (mpR (D, E) p f wb) ∧ Bd T' ∧ Sep w w' T'.things := by
  subst hD hE
  exact (s_MapPage_at T p f wb w hr B hcap).mono fun e w' ⟨T', h1, h2, h3, h4⟩ => ⟨T', h1, h2, h3, mpR_bd h2 h3, h4⟩
end Go.Proofs.Ytaaocnfbbajphaa
