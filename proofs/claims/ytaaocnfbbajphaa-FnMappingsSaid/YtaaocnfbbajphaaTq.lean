/- Contracts of mapPage, ProtectPage, MapRun, MapPage, TableOf in the program. Tables not too large. -/
import Derived.Test.YtaaocnfbbajphaaTo
namespace Go.Proofs.Ytaaocnfbbajphaa
open Go.RowKit
set_option linter.unusedVariables false
set_option linter.unusedSimpArgs false

theorem mapOk_yes {D : List Int} {E : List (List REntry)} {p f : Int} (h : mapOk D E p f = true) : ∃ q : Nat, p = q ∧ q < 16 ∧ inB f 0 15 = true ∧ frO D E q = -1 := by
  simp only [mapOk, Bool.and_eq_true] at h
  obtain ⟨h1, h2, h3⟩ := h
  obtain ⟨q, rfl, hq⟩ := pageOk_nat (D := []) (E := []) h1
  rw [Int.toNat_natCast] at h3
  exact ⟨q, rfl, hq, h2, by simpa using h3⟩
theorem mapOk_good {D : List Int} {E : List (List REntry)} {p f : Int} {wr : Bool} (hg : Good D E) (h : mapOk D E p f = true) : Good (mapD D E p.toNat) (mapL D E p.toNat ⟨f, wr⟩) := by
  obtain ⟨q, rfl, hq, hf, _⟩ := mapOk_yes h
  rw [Int.toNat_natCast]
  refine hg.map hq (bad_in hf) ?_
  have := inB_iff.1 hf
  simp [entHas]; omega
/-- what mapPage leaves -/
theorem mapPage_any (W0 : World) (P : List Thing) (g : Nat) (T : Tab) (p f : Int) (wr : Bool) (w : World) (S : Sep W0 w (P ++ tvT g T)) (hg : Good T.D T.E) (b : Bool) (hb : mapOk T.D T.E p f = b) :
    Calls Try.prog 75 #[.pointer (some ⟨g, 0, none⟩), .int .i64 p, .int .i64 f, .bool wr] w fun e w' => ∃ T' : Tab, e = .returned (.bool b) ∧ (b = true → T'.D = mapD T.D T.E p.toNat ∧ T'.E = mapL T.D T.E p.toNat ⟨f, wr⟩) ∧ Sep W0 w' (P ++ tvT g T') := by
  cases b
  · exact (mapPage_no W0 P g T p f wr w S hg hb).mono fun e w' ⟨h1, h2⟩ => ⟨T, h1, (fun h => by cases h), h2⟩
  · obtain ⟨q, rfl, hq, hf, hn⟩ := mapOk_yes hb
    rw [Int.toNat_natCast]
    by_cases hd : dirOf T.D q = -1
    · exact (mapPage_new W0 P g T q f wr w S hg hq hf hd).mono fun e w' ⟨T', h1, h2, h3, h4⟩ => ⟨T', h1, fun _ => ⟨h2, h3⟩, h4⟩
    · exact (mapPage_old W0 P g T q f wr w S hg hq hf hn hd).mono fun e w' ⟨T', h1, h2, h3, h4⟩ => ⟨T', h1, fun _ => ⟨h2, h3⟩, h4⟩

theorem good_leaf4 {T : Tab} (h : Good T.D T.E) : ∀ l ∈ T.L, l.es.length = 4 := fun l hl => leafB_len (h.leaf l.es (List.mem_map.2 ⟨l, hl, rfl⟩))
/-- is the page one that has a frame -/
noncomputable def hasOk (D : List Int) (E : List (List REntry)) (p : Int) : Bool := goodB D E && (inB p 0 15 && (frO D E p.toNat != -1))
theorem hasOk_yes {D : List Int} {E : List (List REntry)} {p : Int} (h : hasOk D E p = true) : Good D E ∧ ∃ q : Nat, p = q ∧ q < 16 ∧ frO D E q ≠ -1 := by
  simp only [hasOk, Bool.and_eq_true] at h
  obtain ⟨h1, h2, h3⟩ := h
  obtain ⟨q, rfl, hq⟩ := pageOk_nat (D := []) (E := []) h2
  rw [Int.toNat_natCast] at h3
  exact ⟨goodB_iff.1 h1, q, rfl, hq, by simpa using h3⟩
/-- the table in which a page may be written, or not -/
noncomputable def prD (D : List Int) (E : List (List REntry)) (p : Int) : List Int := if hasOk D E p then mapD D E p.toNat else []
noncomputable def prE (D : List Int) (E : List (List REntry)) (p : Int) (wr : Bool) : List (List REntry) := if hasOk D E p then mapL D E p.toNat ⟨frO D E p.toNat, wr⟩ else []
theorem fr_dir {D : List Int} {E : List (List REntry)} {q : Nat} (h : frO D E q ≠ -1) : dirOf D q ≠ -1 := fun hd => h (by simp [frO, getE, entO_none hd])
theorem Good.protect {D : List Int} {E : List (List REntry)} (h : Good D E) {q : Nat} (hq : q < 16) (hf : frO D E q ≠ -1) (wr : Bool) : Good (mapD D E q) (mapL D E q ⟨frO D E q, wr⟩) := by
  have := h.frame hq
  refine h.map hq (bad_in (inB_iff.2 ⟨?_, ?_⟩)) (by simp [entHas, hf]) <;> simp only <;> omega
/-- what a failed call returns: a table without anything -/
theorem fail_things {w w' : World} (hb : Below w.heap.size w w') : ∃ T' : Tab, tabV T' = .agg #[.slice none 0 0, .slice none 0 0] ∧ T'.D = [] ∧ T'.E = [] ∧ Bd T' ∧ Sep w w' T'.things := ⟨tab0, rfl, rfl, rfl, Bd.nil_, things0_below hb⟩

set_option maxRecDepth 100000 in
set_option maxHeartbeats 4000000 in
theorem i_ProtectPage_any (T : Tab) (p : Int) (wr : Bool) (w : World) (hr : RdT w T) (B : Bd T) (hcap : T.D.length ≤ T.cd ∧ T.cd ≤ maxLen) (D : List Int) (E : List (List REntry)) (hD : T.D = D) (hE : T.E = E) :
    Calls Try.prog 30 #[tabV T, .int .i64 p, .bool wr] w fun e w' => ∃ T' : Tab, e = .returned (.tuple #[tabV T', .bool (hasOk D E p)]) ∧ T'.D = prD D E p ∧ T'.E = prE D E p wr ∧ Bd T' ∧ Sep w w' T'.things := by
  subst hD hE
  have S0 := (Sep.start w).new (below_alloc w _) (own_bx w 27 2 #[.slice T.Ad T.D.length T.cd, .slice T.Al T.L.length T.cl] rfl)
  have S1 := S0.new (below_alloc _ _) (own_bx _ 27 2 #[.slice none 0 0, .slice none 0 0] rfl)
  simp only [List.nil_append, List.cons_append, size_alloc] at S1
  have HS1 := Lib.hid S1
  clear S0 S1
  have HRD := Lib.hid hr
  clear hr
  unfold prD prE
  cases h1 : goodB T.D T.E
  all_goals have H1 := Lib.hid h1
  · have hk : hasOk T.D T.E p = false := by simp [hasOk, h1]
    rw [hk]
    clear h1 hk
    simp only [Bool.false_eq_true, if_false]
    go_enter Try.func30, Try.ntmps30
    go_wp2_with fail
    refine (i_IsTable_eq T _ (HRD.out.keep HS1.out.bel) B.d B.n B.l _ H1.out).mono ?_
    rintro e w1 ⟨rfl, hb⟩
    have C1 := own_box ((HS1.out.below hb).own 1 _ rfl)
    have F1 := own_free ((HS1.out.below hb).own 1 _ rfl)
    have HB := Lib.hid (HS1.out.below hb).bel
    clear hb
    go_wp2
    refine bodyPost_ret (v := .tuple #[.agg #[.slice none 0 0, .slice none 0 0], .bool false]) (by simp [results, Try.results30, go_sem, C1]) rfl ?_
    exact ⟨tab0, rfl, rfl, rfl, Bd.nil_, things0_below ((HB.out.setCell (by simp) _).setCell (by simp) _)⟩
  · have HG := Lib.hid (goodB_iff.1 h1)
    cases h2 : inB p 0 15
    all_goals have H2 := Lib.hid h2
    · have hk : hasOk T.D T.E p = false := by simp [hasOk, h2]
      rw [hk]
      clear h1 h2 hk
      simp only [Bool.false_eq_true, if_false]
      go_enter Try.func30, Try.ntmps30
      go_wp2_with fail
      refine (i_IsTable_eq T _ (HRD.out.keep HS1.out.bel) B.d B.n B.l _ H1.out).mono ?_
      rintro e w1 ⟨rfl, hb⟩
      have C1 := own_box ((HS1.out.below hb).own 1 _ rfl)
      have F1 := own_free ((HS1.out.below hb).own 1 _ rfl)
      have HB := Lib.hid (HS1.out.below hb).bel
      clear hb
      go_wp2_with fail
      refine (isPage_eq H2.out _).mono ?_
      rintro e w2 ⟨rfl, rfl⟩
      go_wp2
      refine bodyPost_ret (v := .tuple #[.agg #[.slice none 0 0, .slice none 0 0], .bool false]) (by simp [results, Try.results30, go_sem, C1]) rfl ?_
      exact ⟨tab0, rfl, rfl, rfl, Bd.nil_, things0_below ((HB.out.setCell (by simp) _).setCell (by simp) _)⟩
    · obtain ⟨q, rfl, hq⟩ := pageOk_nat (D := []) (E := []) h2
      obtain ⟨f, hf⟩ : ∃ f, frO T.D T.E q = f := ⟨_, rfl⟩
      have hk : hasOk T.D T.E q = (f != -1) := by simp [hasOk, h1, h2, hf]
      rw [hk, Int.toNat_natCast, hf]
      have HF := Lib.hid hf
      clear h1 h2 hk hf
      by_cases hn : f = -1
      · subst hn
        simp only [bne_self_eq_false, Bool.false_eq_true, if_false]
        go_enter Try.func30, Try.ntmps30
        go_wp2_with fail
        refine (i_IsTable_eq T _ (HRD.out.keep HS1.out.bel) B.d B.n B.l _ H1.out).mono ?_
        rintro e w1 ⟨rfl, hb⟩
        have C0 := own_box ((HS1.out.below hb).own 0 _ rfl)
        have HS2 := Lib.hid (HS1.out.below hb)
        clear hb
        go_wp2_with fail
        refine (isPage_eq H2.out _).mono ?_
        rintro e w2 ⟨rfl, rfl⟩
        go_wp2_with fail
        refine (frameOf_eq T q _ (HRD.out.keep HS2.out.bel) HG.out hq _ HF.out).mono ?_
        rintro e w2 ⟨rfl, hb⟩
        have C1 := own_box ((HS2.out.below hb).own 1 _ rfl)
        have F1 := own_free ((HS2.out.below hb).own 1 _ rfl)
        have HB := Lib.hid (HS2.out.below hb).bel
        clear hb
        go_wp2
        refine bodyPost_ret (v := .tuple #[.agg #[.slice none 0 0, .slice none 0 0], .bool false]) (by simp [results, Try.results30, go_sem, C1]) rfl ?_
        exact ⟨tab0, rfl, rfl, rfl, Bd.nil_, things0_below ((HB.out.setCell (by simp) _).setCell (by simp) _)⟩
      · have hne : (f != -1) = true := by simp [hn]
        have hne2 : (f == -1) = false := by simp [hn]
        have HGD := Lib.hid (HG.out.protect hq (by rw [HF.out]; exact hn) wr)
        have HDN := Lib.hid (fr_dir (D := T.D) (E := T.E) (q := q) (by rw [HF.out]; exact hn))
        have HFE := HF
        rw [hne]
        simp only [if_true]
        clear hn hne
        go_enter Try.func30, Try.ntmps30
        go_wp2_with fail
        refine (i_IsTable_eq T _ (HRD.out.keep HS1.out.bel) B.d B.n B.l _ H1.out).mono ?_
        rintro e w1 ⟨rfl, hb⟩
        have C0 := own_box ((HS1.out.below hb).own 0 _ rfl)
        have HS2 := Lib.hid (HS1.out.below hb)
        clear hb
        go_wp2_with fail
        refine (isPage_eq H2.out _).mono ?_
        rintro e w2 ⟨rfl, rfl⟩
        go_wp2_with fail
        refine (frameOf_eq T q _ (HRD.out.keep HS2.out.bel) HG.out hq _ HF.out).mono ?_
        rintro e w2 ⟨rfl, hb⟩
        clear C0
        have C0 := own_box ((HS2.out.below hb).own 0 _ rfl)
        have HS3 := Lib.hid (HS2.out.below hb)
        clear hb
        go_wp2_with fail
        refine (newTable_any T _ (HRD.out.keep HS3.out.bel) B (good_leaf4 HG.out)).mono ?_
        rintro e w3 ⟨T1, rfl, hD1, hE1, R⟩
        have S4 := HS3.out.join R
        have S5 := tv_in (S4.new (below_alloc _ _) (own_bx _ 27 2 #[.slice T1.Ad T1.D.length T1.cd, .slice T1.Al T1.L.length T1.cl] rfl))
        have HG1 := Lib.hid (show Good T1.D T1.E by rw [hD1, hE1]; exact HG.out)
        have HD1 := Lib.hid hD1
        have HE1 := Lib.hid hE1
        have hd1 : dirOf T1.D q ≠ -1 := by rw [hD1]; exact HDN.out
        obtain ⟨j, b2, o2, l, e, h1, h2, h3, hb2, h5, h51, h6, h7, hc0, hc1⟩ := entry_at (tv_rd S5) HG1.out hq hd1
        obtain ⟨lA, lc, es⟩ := l
        dsimp only at h2 h3 h5 h51
        subst h3
        have hrow := (show Sep w _ ([_, _] ++ tvT w3.heap.size T1 ++ []) by rw [List.append_nil]; exact S5).ownMid (j + 3) (t := tL ⟨some ⟨b2, o2, none⟩, lc, es⟩) (by simp [tvT, Tab.things, h2])
        obtain ⟨g2, hg2, _, _⟩ := own_someS hrow (by show 0 < es.length; omega)
        simp only [Option.some.injEq, Addr.mk.injEq, and_true] at hg2
        obtain ⟨rfl, rfl⟩ := hg2
        have HS5 := Lib.hid S5
        have HROW := Lib.hid hrow
        have HH1 := Lib.hid h1
        have HH2 := Lib.hid h2
        have HH5 := Lib.hid h5
        have HH51 := Lib.hid h51
        have HEF : Hid (e.f0 = f) := by
          have := HF.out
          rw [← hD1, ← hE1] at this
          have h8 : frO T1.D T1.E q = e.f0 := by simp [frO, getE, h6]
          exact h8.symm.trans this
        clear S4 S5 R hrow h1 h2 h5 h51 h6 h7 hc0 hc1 hd1 hD1 hE1 C0
        go_wp2_with fail
        refine (entryOf_some T1 q j _ _ (q % 4) _ _ (tv_rd HS5.out) HG1.out.len hq HH1.out HH2.out rfl HH5.out rfl).mono ?_
        rintro e2 w4 ⟨rfl, hb⟩
        have HS6 := Lib.hid (HS5.out.below hb)
        have hrow6 : Own w4 w.heap.size (tsEntry (some ⟨b2, 0, none⟩) es.length lc es) := HROW.out.mono hb
        rw [HH5.out] at hrow6
        have HE := Lib.hid (own_entryW hrow6 (Nat.mod_lt q (by decide)) HH51.out wr)
        obtain ⟨hx0, hfz, _, _⟩ := own_entryW hrow6 (Nat.mod_lt q (by decide)) HH51.out wr
        have hS7 := tv_put HS6.out (j := j) (l := ⟨some ⟨_, 0, none⟩, lc, es⟩) HH2.out (es.set (q % 4) ⟨e.f0, wr⟩) (by simp) HE.out.2.2.2 (by
          have := HE.out.2.2.1
          show World.ownsRow _ _ _ _ (.slice _ es.length lc) es.length _
          rw [HH5.out]; exact this)
        have C7 := own_box (tv_box hS7)
        have Z7 := own_lt (tv_box hS7)
        dsimp only at C7
        rw [List.length_set] at C7
        have C8 := own_box (hS7.own 1 _ rfl)
        have F8 := own_free (hS7.own 1 _ rfl)
        have HS7 := Lib.hid hS7
        clear hb hrow6 hS7
        go_wp2
        refine bodyPost_ret (v := .tuple #[.agg #[.slice T1.Ad T1.D.length T1.cd, .slice T1.Al T1.L.length T1.cl], .bool true]) (by simp [results, Try.results30, go_sem, C8]) rfl ?_
        have P3 := own_putAll [.slice T1.Ad T1.D.length T1.cd, .slice T1.Al T1.L.length T1.cl] _ _ 0 (HS7.out.own 1 _ rfl)
        have S8 := HS7.out.write 1 rfl P3.2 _ P3.1
        have hD : T1.D = mapD T.D T.E q := by rw [HD1.out, mapD, if_neg HDN.out]
        have hE : (⟨T1.Ad, T1.cd, T1.D, T1.Al, T1.cl, T1.L.set j ⟨some ⟨b2, 0, none⟩, lc, es.set (q % 4) ⟨e.f0, wr⟩⟩⟩ : Tab).E = mapL T.D T.E q ⟨f, wr⟩ := by
          rw [tv_putE HH2.out, mapL, if_neg HDN.out, HE1.out, HEF.out]
          have h1 := HH1.out
          rw [HD1.out] at h1
          rw [h1, Int.toNat_natCast]
          have h8 : T.E[j]? = some es := by rw [← HE1.out]; simp only [Tab.E, List.getElem?_map, HH2.out]; rfl
          rw [h8]; rfl
        have hgd := HGD.out
        rw [HF.out] at hgd
        refine ⟨⟨T1.Ad, T1.cd, T1.D, T1.Al, T1.cl, T1.L.set j ⟨some ⟨b2, 0, none⟩, lc, es.set (q % 4) ⟨e.f0, wr⟩⟩⟩, ?_, hD, hE, Bd.good (by rw [hE]; show Good T1.D _; rw [hD]; exact hgd), tv_things (P := [_, _]) S8⟩
        show _ = Ending.returned (.tuple #[.agg #[_, .slice _ (T1.L.set j _).length _], _])
        rw [List.length_set]
end Go.Proofs.Ytaaocnfbbajphaa
