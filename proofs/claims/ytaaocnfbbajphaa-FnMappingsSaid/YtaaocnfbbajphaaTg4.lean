/- Contract of UnmapPage in the program. Tables not too large. -/
import Derived.Test.YtaaocnfbbajphaaTf4
import Derived.Deep.Cut
namespace Go.Proofs.Ytaaocnfbbajphaa
open Go.RowKit
set_option linter.unusedVariables false
set_option linter.unusedSimpArgs false
attribute [local go_sem ↓] Go.wp_at_zero Go.wp_at_succ

theorem hasOk_eq {D : List Int} {E : List (List REntry)} {q : Nat} (h1 : goodB D E = true) (h2 : inB (q : Int) 0 15 = true) : hasOk D E q = (frO D E q != -1) := by simp [hasOk, h1, h2]
theorem uR_no {D : List Int} {E : List (List REntry)} {p : Int} (h : hasOk D E p = false) : uR D E p = none := by rw [uR, h]; rfl
set_option maxRecDepth 100000 in
set_option maxHeartbeats 8000000 in
theorem i_UnmapPage_any (T : Tab) (p : Int) (w : World) (hr : RdT w T) (B : Bd T) (hcap : T.D.length ≤ T.cd ∧ T.cd ≤ maxLen) (D : List Int) (E : List (List REntry)) (hD : T.D = D) (hE : T.E = E) :
    Calls Try.prog 13 #[tabV T, .int .i64 p] w fun e w' => ∃ T' : Tab, e = .returned (.tuple #[tabV T', .bool (uR D E p).isSome]) ∧ T'.D = oD (uR D E p) ∧ T'.E = oE (uR D E p) ∧ Bd T' ∧ Sep w w' T'.things := by
  suffices h : Calls Try.prog 13 #[tabV T, .int .i64 p] w fun e w' => ∃ T' : Tab, e = .returned (.tuple #[tabV T', .bool (uR D E p).isSome]) ∧ T'.D = oD (uR D E p) ∧ T'.E = oE (uR D E p) ∧ Sep w w' T'.things from
    h.mono fun e w' ⟨T', h1, h2, h3, h4⟩ => ⟨T', h1, h2, h3, uR_bd h2 h3, h4⟩
  subst hD hE
  have S0 := (Sep.start w).new (below_alloc w _) (own_bx w 27 2 #[.slice T.Ad T.D.length T.cd, .slice T.Al T.L.length T.cl] rfl)
  have S1 := S0.new (below_alloc _ _) (own_bx _ 27 2 #[.slice none 0 0, .slice none 0 0] rfl)
  simp only [List.nil_append, List.cons_append, size_alloc] at S1
  have HS1 := Lib.hid S1
  have HRD := Lib.hid hr
  clear S0 S1 hr
  cases h1 : goodB T.D T.E
  all_goals have H1 := Lib.hid h1
  · rw [uR_no (by simp [hasOk, h1])]
    clear h1
    go_enter Try.func13, Try.ntmps13
    go_wp2_with fail
    refine (i_IsTable_eq T _ (HRD.out.keep HS1.out.bel) B.d B.n B.l _ H1.out).mono ?_
    rintro e w1 ⟨rfl, hb⟩
    have C1 := own_box ((HS1.out.below hb).own 1 _ rfl)
    have F1 := own_free ((HS1.out.below hb).own 1 _ rfl)
    have HB := Lib.hid (HS1.out.below hb).bel
    clear hb
    go_wp2
    refine bodyPost_ret (v := .tuple #[.agg #[.slice none 0 0, .slice none 0 0], .bool false]) (by simp [results, Try.results13, go_sem, C1]) rfl ?_
    exact ⟨tab0, rfl, rfl, rfl, things0_below ((HB.out.setCell (by simp) _).setCell (by simp) _)⟩
  · have HG := Lib.hid (goodB_iff.1 h1)
    cases h2 : inB p 0 15
    all_goals have H2 := Lib.hid h2
    · rw [uR_no (by simp [hasOk, h2])]
      clear h1 h2
      go_enter Try.func13, Try.ntmps13
      go_wp2_with fail
      refine (i_IsTable_eq T _ (HRD.out.keep HS1.out.bel) B.d B.n B.l _ H1.out).mono ?_
      rintro e w1 ⟨rfl, hb⟩
      have C1 := own_box ((HS1.out.below hb).own 1 _ rfl)
      have F1 := own_free ((HS1.out.below hb).own 1 _ rfl)
      have HB := Lib.hid (HS1.out.below hb).bel
      clear hb
      go_wp2_with fail
      refine (isPage_eq H2.out _).mono ?_
      rintro e w2 ⟨rfl, rfl⟩
      go_wp2
      refine bodyPost_ret (v := .tuple #[.agg #[.slice none 0 0, .slice none 0 0], .bool false]) (by simp [results, Try.results13, go_sem, C1]) rfl ?_
      exact ⟨tab0, rfl, rfl, rfl, things0_below ((HB.out.setCell (by simp) _).setCell (by simp) _)⟩
    · obtain ⟨q, rfl, hq⟩ := pageOk_nat (D := []) (E := []) h2
      obtain ⟨f, hf⟩ : ∃ f, frO T.D T.E q = f := ⟨_, rfl⟩
      have hk := hasOk_eq h1 h2
      rw [hf] at hk
      have HF := Lib.hid hf
      by_cases hn : f = -1
      · rw [uR_no (by rw [hk, hn]; rfl)]
        subst hn
        clear h1 h2 hk hf
        go_enter Try.func13, Try.ntmps13
        go_wp2_with fail
        refine (i_IsTable_eq T _ (HRD.out.keep HS1.out.bel) B.d B.n B.l _ H1.out).mono ?_
        rintro e w1 ⟨rfl, hb⟩
        have C0 := own_box ((HS1.out.below hb).own 0 _ rfl)
        have HS2 := Lib.hid (HS1.out.below hb)
        clear hb
        go_wp2_with fail
        refine (isPage_eq H2.out _).mono ?_
        rintro e w2 ⟨rfl, rfl⟩
        go_wp2_with fail
        refine (frameOf_eq T q _ (HRD.out.keep HS2.out.bel) HG.out hq _ HF.out).mono ?_
        rintro e w2 ⟨rfl, hb⟩
        have C1 := own_box ((HS2.out.below hb).own 1 _ rfl)
        have F1 := own_free ((HS2.out.below hb).own 1 _ rfl)
        have HB := Lib.hid (HS2.out.below hb).bel
        clear hb
        go_wp2
        refine bodyPost_ret (v := .tuple #[.agg #[.slice none 0 0, .slice none 0 0], .bool false]) (by simp [results, Try.results13, go_sem, C1]) rfl ?_
        exact ⟨tab0, rfl, rfl, rfl, things0_below ((HB.out.setCell (by simp) _).setCell (by simp) _)⟩
      · have hne : (f != -1) = true := by simp [hn]
        have hne2 : (f == -1) = false := by simp [hn]
        rw [hne] at hk
        have HDN := Lib.hid (fr_dir (D := T.D) (E := T.E) (q := q) (by rw [HF.out]; exact hn))
        have huR : uR T.D T.E q = some (unmD T.D T.E q, unmL T.D T.E q) := by rw [uR, if_pos hk, Int.toNat_natCast]
        rw [huR]
        clear hn hne hk huR h1 h2 hf
        go_enter Try.func13, Try.ntmps13
        go_wp2_with fail
        refine (i_IsTable_eq T _ (HRD.out.keep HS1.out.bel) B.d B.n B.l _ H1.out).mono ?_
        rintro e w1 ⟨rfl, hb⟩
        have C0 := own_box ((HS1.out.below hb).own 0 _ rfl)
        have HS2 := Lib.hid (HS1.out.below hb)
        clear hb
        go_wp2_with fail
        refine (isPage_eq H2.out _).mono ?_
        rintro e w2 ⟨rfl, rfl⟩
        go_wp2_with fail
        refine (frameOf_eq T q _ (HRD.out.keep HS2.out.bel) HG.out hq _ HF.out).mono ?_
        rintro e w2 ⟨rfl, hb⟩
        clear C0
        have C0 := own_box ((HS2.out.below hb).own 0 _ rfl)
        have HS3 := Lib.hid (HS2.out.below hb)
        clear hb
        go_wp2_with fail
        refine (newTable_any T _ (HRD.out.keep HS3.out.bel) B (good_leaf4 HG.out)).mono ?_
        rintro e w3 ⟨T1, rfl, hD1, hE1, R⟩
        have S5 := tv_in ((HS3.out.join R).new (below_alloc _ _) (own_bx _ 27 2 #[.slice T1.Ad T1.D.length T1.cd, .slice T1.Al T1.L.length T1.cl] rfl))
        have HG1 := Lib.hid (show Good T1.D T1.E by rw [hD1, hE1]; exact HG.out)
        have HD1 := Lib.hid hD1
        have HE1 := Lib.hid hE1
        have hd1 : dirOf T1.D q ≠ -1 := by rw [hD1]; exact HDN.out
        have hbx3 : ∀ b, (∃ n c xs e, Own w3 (w.alloc (.cells #[.slice T.Ad T.D.length T.cd, .slice T.Al T.L.length T.cl] 27)).heap.size ⟨e, 1, some ⟨b, 0, none⟩, n, c, xs⟩) → b < w3.heap.size := fun b ⟨n, c, xs, e, h⟩ => (World.ownsRow.lt h b rfl).2
        obtain ⟨Ad, cd, D, Al, cl, L⟩ := T1
        have h4 := HG1.out.len
        dsimp only at h4 hd1
        have hdir := (R.own 0 _ rfl)
        obtain ⟨b, rfl⟩ := own_some (n := D.length) (xs := D) hdir (by omega)
        have hbw : b < w3.heap.size := (World.ownsRow.lt hdir b rfl).2
        obtain ⟨b', o, hbo, hbl, hcd⟩ := (tv_rd S5).dirs h4
        simp only [Option.some.injEq, Addr.mk.injEq, and_true] at hbo
        obtain ⟨rfl, rfl⟩ := hbo
        obtain ⟨j, b2, o2, l, e, h1, h2, h3, hb2, h5, h51, h6, h7, hc0, hc1⟩ := entry_at (tv_rd S5) HG1.out hq hd1
        obtain ⟨lA, lc, es⟩ := l
        dsimp only at h1 h2 h3 h5 h51
        subst h3
        have hrow := tv_leaf S5 h2
        obtain ⟨g2, hg2, _, _⟩ := own_someS hrow (by show 0 < es.length; omega)
        simp only [Option.some.injEq, Addr.mk.injEq, and_true] at hg2
        obtain ⟨rfl, rfl⟩ := hg2
        have hjL := (List.getElem?_eq_some_iff.1 h2).1
        have hrows := R.own 1 _ rfl
        obtain ⟨g3, hg3, _, _⟩ := own_someS hrows (by show 0 < L.length; omega)
        dsimp only at hg3
        subst hg3
        have hgt := dir_get h4 hq
        rw [h1] at hgt
        obtain ⟨a, ha⟩ : ∃ a, a = q / 4 := ⟨_, rfl⟩
        rw [← ha] at hgt
        have hL4 := HG1.out.len4
        rw [Tab.E_len] at hL4
        have HS5 := Lib.hid S5
        have HROW := Lib.hid hrow
        have HH1 := Lib.hid h1
        have HH2 := Lib.hid h2
        have HH5 := Lib.hid h5
        have HGT := Lib.hid hgt
        have HH4 := Lib.hid h4
        have HA := Lib.hid ha
        have ha4 : a < 4 := by omega
        clear S5 R hrow hrows hdir h1 h2 h5 h51 h6 h7 hc0 hc1 hd1 hD1 hE1 C0 hgt ha hcd hbx3 h4
        go_wp2_with fail
        refine (entryOf_some _ q j _ _ (q % 4) _ _ (tv_rd HS5.out) HG1.out.len hq HH1.out HH2.out rfl HH5.out rfl).mono ?_
        rintro e2 w4 ⟨rfl, hb⟩
        have HS6 := Lib.hid (HS5.out.below hb)
        have hrow6 : Own w4 w.heap.size (tsEntry (some ⟨b2, 0, none⟩) es.length lc es) := HROW.out.mono hb
        rw [HH5.out] at hrow6
        have HE := Lib.hid (own_entry hrow6 (Nat.mod_lt q (by decide)) noE)
        obtain ⟨⟨x0, y0, hx0, hy0⟩, hfz, _, _⟩ := own_entry hrow6 (Nat.mod_lt q (by decide)) noE
        have hS7 := tv_put HS6.out (j := j) (l := ⟨some ⟨_, 0, none⟩, lc, es⟩) HH2.out (es.set (q % 4) noE) (by simp) HE.out.2.2.2 (by
          have := HE.out.2.2.1
          show World.ownsRow _ _ _ _ (.slice _ es.length lc) es.length _
          rw [HH5.out]; exact this)
        have C7 := own_box (tv_box HS6.out)
        have Z7 := own_lt (tv_box HS6.out)
        have HS7 := Lib.hid hS7
        clear hb hrow6 hS7
        have hrng : ∀ d ∈ D, -1 ≤ d ∧ d < (L.length : Int) := fun d hd => ⟨by
          obtain ⟨k, hk⟩ := List.getElem?_of_mem hd
          by_cases h : d = -1
          · omega
          · have := HG1.out.dirs k d (by have h9 := (List.getElem?_eq_some_iff.1 hk).1; have h8 := HH4.out; omega) hk h
            omega, HG1.out.lt d hd |> fun h => by rw [Tab.E_len] at h; exact h⟩
        obtain ⟨L5, hL5⟩ : ∃ L5, L5 = L.set j ⟨some ⟨b2, 0, none⟩, lc, es.set (q % 4) noE⟩ := ⟨_, rfl⟩
        have hlen5 : L5.length = L.length := by rw [hL5, List.length_set]
        have hj5 : L5[j]? = some ⟨some ⟨b2, 0, none⟩, lc, es.set (q % 4) noE⟩ := by rw [hL5]; exact List.getElem?_set_self hjL
        have hD5 : D = mapD T.D T.E q := by rw [mapD, if_neg HDN.out]; exact HD1.out
        have hdj : dirOf T.D q = (j : Int) := by have h1 := HH1.out; rw [show D = T.D from HD1.out] at h1; exact h1
        have hE5 : (⟨some ⟨b, 0, none⟩, cd, D, some ⟨g3, 0, none⟩, cl, L5⟩ : Tab).E = mapL T.D T.E q noE := by
          have h9 := tv_putE (T := ⟨some ⟨b, 0, none⟩, cd, D, some ⟨g3, 0, none⟩, cl, L⟩) HH2.out (es.set (q % 4) noE)
          rw [hL5]
          refine h9.trans ?_
          rw [mapL, if_neg HDN.out, hdj, Int.toNat_natCast, HE1.out]
          have h8 : T.E[j]? = some es := by rw [← HE1.out]; simp only [Tab.E, List.getElem?_map, HH2.out]; rfl
          rw [h8]; rfl
        have hes5 : ((mapL T.D T.E q noE)[(dirOf T.D q).toNat]?).getD [] = es.set (q % 4) noE := by
          rw [hdj, Int.toNat_natCast, ← hE5]
          show ((L5.map Leaf.es)[j]?).getD [] = _
          rw [List.getElem?_map, hj5]; rfl
        obtain ⟨w5, hw5⟩ : ∃ w5, w5 = (w4.setCell ⟨b2, q % 4 * 2, none⟩ (.int .i64 (-1))).setCell ⟨b2, q % 4 * 2 + 1, none⟩ (.bool false) := ⟨_, rfl⟩
        have HS8 : Hid (Sep w w5 ([bx 27 2 w.heap.size [.slice T.Ad T.D.length T.cd, .slice T.Al T.L.length T.cl], bx 27 2 (w.heap.size + 1) [.slice none 0 0, .slice none 0 0]] ++ tvT w3.heap.size ⟨some ⟨b, 0, none⟩, cd, D, some ⟨g3, 0, none⟩, cl, L5⟩)) := by
          rw [hL5, hw5]; exact HS7.out
        have h5l : (es.set (q % 4) noE).length = 4 := by rw [List.length_set]; exact HH5.out
        have HRNG := Lib.hid hrng
        have HJ5 := Lib.hid hj5
        have HD5 := Lib.hid hD5
        have HE5 := Lib.hid hE5
        have HES5 := Lib.hid hes5
        have HDJ := Lib.hid hdj
        have H5L := Lib.hid h5l
        have HL5 := Lib.hid hlen5
        have hL4' : L.length ≤ 4 := hL4
        have hj4 : (j : Int) < 4 := by omega
        have hjl5 : (j : Int) < (L5.length : Int) := by omega
        have hal : 0 ≤ (q : Int) / 4 ∧ (q : Int) / 4 < (D.length : Int) := by have := HH4.out; omega
        clear hrng hj5 hD5 hE5 hes5 hdj h5l hL5 hlen5
        go_upto_region 5 with (fail)
        rw [← hw5]
        clear C7 Z7 hx0 hy0 hfz HE HS6 HS7 hw5 HS5 HROW HS3 HS2
        have C7 := own_box (tv_box HS8.out)
        have Z7 := own_lt (tv_box HS8.out)
        dsimp only at C7
        obtain ⟨b', o', hbo', hbl', hcd'⟩ := (tv_rd HS8.out).dirs HH4.out
        simp only [Option.some.injEq, Addr.mk.injEq, and_true] at hbo'
        obtain ⟨rfl, rfl⟩ := hbo'
        have hcd := hcd'.out a _ HGT.out
        rw [Nat.zero_add, HA.out] at hcd
        obtain ⟨b3, o3, hb3, hbl3, hc3⟩ := (tv_rd HS8.out).rowAt HJ5.out
        simp only [Option.some.injEq, Addr.mk.injEq, and_true] at hb3
        obtain ⟨rfl, rfl⟩ := hb3
        rw [Nat.zero_add, H5L.out] at hc3
        dsimp only at hc3
        have hrl := (tv_rd HS8.out).l j _ HJ5.out
        dsimp only at hrl
        rw [H5L.out] at hrl
        have HRL := Lib.hid hrl
        clear hrl
        cases hlf : leafB (es.set (q % 4) noE)
        all_goals have HLF := Lib.hid hlf
        all_goals clear hlf
        · go_wp2_with fail
          refine (isLeaf_eq _ _ _ _ _ HRL.out (by decide) _ HLF.out).mono ?_
          rintro e3 w6 ⟨rfl, hb⟩
          have HS9 := Lib.hid (HS8.out.below hb)
          clear hb C7 Z7
          have C7 := own_box (tv_box HS9.out)
          have Z7 := own_lt (tv_box HS9.out)
          dsimp only at C7
          have hjm : (j : Int) + 1 ≤ 9223372036854775807 := by omega
          have hjL5 : j < L5.length := by omega
          have h54 : L5.length ≤ 4 := by have := HL5.out; omega
          go_wp2_with fail
          refine (delete_any g3 j cl w.heap.size L5 _ (HS9.out.own 4 _ rfl) hjL5 h54).mono ?_
          rintro e4 w7 ⟨rfl, ho7, hg7⟩
          obtain ⟨C10, F10, S10⟩ := tv_del (P := [_, _]) HS9.out hjL5 hg7 ho7
          have HS10 := Lib.hid S10
          clear ho7 hg7 S10 C7 Z7 hcd hc3
          have Z10 := (show w3.heap.size < w7.heap.size by have := own_lt (tv_box HS10.out); simpa using this)
          have HEL : Hid ((L5.eraseIdx j).length = L5.length - 1) := by show _ = _; rw [List.length_eraseIdx, if_pos hjL5]
          go_wp2
          go_loopw [55] (fun i wo => ∃ (k : Nat), k ≤ D.length ∧ i = .int .i64 k ∧ Hid (Sep w wo ([bx 27 2 w.heap.size [.slice T.Ad T.D.length T.cd, .slice T.Al T.L.length T.cl], bx 27 2 (w.heap.size + 1) [.slice none 0 0, .slice none 0 0]] ++ tvT w3.heap.size ⟨some ⟨b, 0, none⟩, cd, cutK D j k, some ⟨g3, 0, none⟩, cl, L5.eraseIdx j⟩)))
            (fun i _ => D.length - (intOf i).toNat)
          case atStart => exact ⟨0, Nat.zero_le _, rfl, by rw [cutK_zero]; exact HS10⟩
          case round =>
            obtain ⟨k, hk, rfl, HS⟩ := hrel
            clear C10 F10 Z10
            by_cases hlt : k < D.length
            · obtain ⟨d, hd⟩ : ∃ d, D[k]? = some d := ⟨_, List.getElem?_eq_getElem hlt⟩
              have hdr := HRNG.out d (List.mem_of_getElem? hd)
              have hdi := (HS.out.own 3 _ rfl)
              have hC := own_box (tv_box HS.out)
              have hZ := own_lt (tv_box HS.out)
              dsimp only at hC
              rw [cutK_len] at hC
              have hxd : Hid ((cutK D j k)[k]? = some d) := by show _ = _; rw [cutK_get hlt]; exact hd
              have hSo := fun x => own_store (show Own wr w.heap.size (ti (some ⟨b, 0, none⟩) D.length cd (cutK D j k)) by have h9 := hdi; rw [show (⟨some ⟨b, 0, none⟩, cd, cutK D j k, some ⟨g3, 0, none⟩, cl, L5.eraseIdx j⟩ : Tab).D.length = D.length from cutK_len _ _ _] at h9; exact h9) hlt x
              have hW : ∀ x wx, wr.grownBy wx (some b) → Own wx w.heap.size (ti (some ⟨b, 0, none⟩) D.length cd ((cutK D j k).set k x)) → x = cut1 j d → Hid (Sep w wx ([bx 27 2 w.heap.size [.slice T.Ad T.D.length T.cd, .slice T.Al T.L.length T.cl], bx 27 2 (w.heap.size + 1) [.slice none 0 0, .slice none 0 0]] ++ tvT w3.heap.size ⟨some ⟨b, 0, none⟩, cd, cutK D j (k + 1), some ⟨g3, 0, none⟩, cl, L5.eraseIdx j⟩)) := by
                intro x wx hgx hox hx
                have h9 := tv_dir HS.out (cutK D j (k + 1)) (by show _ = (cutK _ _ _).length; rw [cutK_len, cutK_len]) hgx (by
                  rw [← cutK_set hd, ← hx]
                  show Own wx _ (ti (some ⟨b, 0, none⟩) (cutK D j k).length cd _)
                  rw [cutK_len]; exact hox)
                exact h9
              obtain ⟨b', o', hb', _, hcd⟩ := (tv_rd HS.out).dirAt hxd.out
              simp only [Option.some.injEq, Addr.mk.injEq, and_true] at hb'
              obtain ⟨rfl, rfl⟩ := hb'
              rw [Nat.zero_add] at hcd
              have HW := Lib.hid hW
              have HDD := Lib.hid hd
              have hkl : (k : Int) < (D.length : Int) := by omega
              have hk4 : (k : Int) < 4 := by have := HH4.out; omega
              have hdd : d < 4 := by omega
              clear hW hd hdi
              by_cases h1 : d = (j : Int)
              · subst h1
                obtain ⟨_, hfz, hown, hgr⟩ := hSo (-1)
                have HX := HW.out _ _ hgr hown (by simp [cut1])
                clear hown hgr hSo
                go_wp2
                go_roundw
                case rel => exact ⟨k + 1, by omega, by go_num, HX⟩
                case measure => simp [intOf]; omega
              · by_cases h2 : (j : Int) < d
                · obtain ⟨_, hfz, hown, hgr⟩ := hSo (d - 1)
                  have HX := HW.out _ _ hgr hown (by simp [cut1, h1, h2])
                  have hd1 : -9223372036854775808 ≤ d - 1 := by omega
                  have hd2 : d - 1 ≤ 9223372036854775807 := by omega
                  clear hown hgr hSo
                  have hb1 : (d == (j : Int)) = false := by simpa using h1
                  go_wp2
                  go_roundw
                  case rel => exact ⟨k + 1, by omega, by go_num, HX⟩
                  case measure => simp [intOf]; omega
                · have HX : Hid (Sep w wr ([bx 27 2 w.heap.size [.slice T.Ad T.D.length T.cd, .slice T.Al T.L.length T.cl], bx 27 2 (w.heap.size + 1) [.slice none 0 0, .slice none 0 0]] ++ tvT w3.heap.size ⟨some ⟨b, 0, none⟩, cd, cutK D j (k + 1), some ⟨g3, 0, none⟩, cl, L5.eraseIdx j⟩)) := by
                    rw [← cutK_same HDD.out (by simp [cut1, h1, h2])]; exact HS
                  clear hSo
                  have hb1 : (d == (j : Int)) = false := by simpa using h1
                  go_wp2
                  go_roundw
                  case rel => exact ⟨k + 1, by omega, by go_num, HX⟩
                  case measure => simp [intOf]; omega
            · have HKN : Hid (k = D.length) := by show k = D.length; omega
              have hC := own_box (tv_box HS.out)
              have hZ := own_lt (tv_box HS.out)
              dsimp only at hC
              rw [cutK_len] at hC
              have C8 := own_box (HS.out.own 1 _ rfl)
              have F8 := own_free (HS.out.own 1 _ rfl)
              go_wp2
              refine bodyPost_ret (v := .tuple #[.agg #[.slice (some ⟨b, 0, none⟩) D.length cd, .slice (some ⟨g3, 0, none⟩) (L5.eraseIdx j).length cl], .bool true]) (by simp [results, Try.results13, go_sem, C8]) rfl ?_
              have P3 := own_putAll [.slice (some ⟨b, 0, none⟩) D.length cd, .slice (some ⟨g3, 0, none⟩) (L5.eraseIdx j).length cl] _ _ 0 (HS.out.own 1 _ rfl)
              have S8 := HS.out.write 1 rfl P3.2 _ P3.1
              refine ⟨⟨some ⟨b, 0, none⟩, cd, cutK D j k, some ⟨g3, 0, none⟩, cl, L5.eraseIdx j⟩, ?_, ?_, ?_, tv_things (P := [_, _]) S8⟩
              · show _ = Ending.returned (.tuple #[.agg #[.slice _ (cutK D j k).length _, _], _])
                rw [cutK_len]; rfl
              · show cutK D j k = unmD T.D T.E q
                rw [unmD, HES5.out, if_neg (by rw [HLF.out]; decide), cutK_all _ _ _ (by rw [HKN.out]; exact Nat.le_refl _), HDJ.out, ← HD5.out]
              · show (⟨some ⟨b, 0, none⟩, cd, _, some ⟨g3, 0, none⟩, cl, L5.eraseIdx j⟩ : Tab).E = unmL T.D T.E q
                rw [unmL, HES5.out, if_neg (by rw [HLF.out]; decide), tv_delE, HDJ.out, Int.toNat_natCast, ← HE5.out]
                rfl
        · go_wp2_with fail
          refine (isLeaf_eq _ _ _ _ _ HRL.out (by decide) _ HLF.out).mono ?_
          rintro e3 w6 ⟨rfl, hb⟩
          have HS9 := Lib.hid (HS8.out.below hb)
          clear hb C7 Z7
          have C7 := own_box (tv_box HS9.out)
          have Z7 := own_lt (tv_box HS9.out)
          have C8 := own_box (HS9.out.own 1 _ rfl)
          have F8 := own_free (HS9.out.own 1 _ rfl)
          dsimp only at C7
          go_wp2
          refine bodyPost_ret (v := .tuple #[.agg #[.slice (some ⟨b, 0, none⟩) D.length cd, .slice (some ⟨g3, 0, none⟩) L5.length cl], .bool true]) (by simp [results, Try.results13, go_sem, C8]) rfl ?_
          have P3 := own_putAll [.slice (some ⟨b, 0, none⟩) D.length cd, .slice (some ⟨g3, 0, none⟩) L5.length cl] _ _ 0 (HS9.out.own 1 _ rfl)
          have S8 := HS9.out.write 1 rfl P3.2 _ P3.1
          refine ⟨⟨some ⟨b, 0, none⟩, cd, D, some ⟨g3, 0, none⟩, cl, L5⟩, rfl, ?_, ?_, tv_things (P := [_, _]) S8⟩
          · show D = unmD T.D T.E q
            rw [unmD, HES5.out, if_pos HLF.out]; exact HD5.out
          · show _ = unmL T.D T.E q
            rw [unmL, HES5.out, if_pos HLF.out]; exact HE5.out
end Go.Proofs.Ytaaocnfbbajphaa
