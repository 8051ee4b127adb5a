/- Contract of l4Map: a table in new memory with another entry of a page. Good tables. -/
import Derived.Test.YtaaocnfbbajphaaTr
namespace Go.Proofs.Ytaaocnfbbajphaa
open Go.RowKit
set_option linter.unusedVariables false
set_option linter.unusedSimpArgs false
attribute [local go_sem ↓] Go.wp_at_zero Go.wp_at_succ

theorem tv_leaf {W0 w : World} {P : List Thing} {Ad Al : Option Addr} {cd cl : Nat} {D : List Int} {L : List Leaf} {g : Nat} (S : Sep W0 w (P ++ tvT g ⟨Ad, cd, D, Al, cl, L⟩)) {j lc : Nat} {lA : Option Addr} {es : List REntry} (hl : L[j]? = some ⟨lA, lc, es⟩) : Own w W0.heap.size (tsEntry lA es.length lc es) := by
  have h7 : Sep W0 w (P ++ tvT g ⟨Ad, cd, D, Al, cl, L⟩ ++ []) := by rw [List.append_nil]; exact S
  exact h7.ownMid (j + 3) (t := tL ⟨lA, lc, es⟩) (by simp [tvT, Tab.things, hl])
set_option maxRecDepth 100000 in
set_option maxHeartbeats 8000000 in
theorem l4Map_old (T : Tab) (q : Nat) (f : Int) (fb : Bool) (w : World) (hr : RdT w T) (B : Bd T) (hg : Good T.D T.E) (hq : q < 16) (hd : dirOf T.D q ≠ -1) :
    Calls Try.prog 43 #[tabV T, .int .i64 q, .agg #[.int .i64 f, .bool fb]] w fun e w' => ∃ T' : Tab, e = .returned (tabV T') ∧ T'.D = mapD T.D T.E q ∧ T'.E = mapL T.D T.E q ⟨f, fb⟩ ∧ Sep w w' T'.things := by
  have HRD := Lib.hid hr
  have HG := Lib.hid hg
  have HDN := Lib.hid hd
  have S0 := (Sep.start w).new (below_alloc w _) (own_bx w 27 2 #[.slice T.Ad T.D.length T.cd, .slice T.Al T.L.length T.cl] rfl)
  have S1 := S0.new (below_alloc _ _) (own_bx _ 67 2 #[.int .i64 f, .bool fb] rfl)
  have S2 := S1.new (below_alloc _ _) (own_bx _ 27 2 #[.slice none 0 0, .slice none 0 0] rfl)
  simp only [List.nil_append, List.cons_append, size_alloc] at S2
  have HS2 := Lib.hid S2
  clear S0 S1 S2 hr hg hd
  go_enter Try.func43, Try.ntmps43
  go_wp2_with fail
  refine (l4Own_any T _ (HRD.out.keep HS2.out.bel) B (good_leaf4 HG.out)).mono ?_
  rintro e0 w3 ⟨T1, rfl, hD1, hE1, R⟩
  have S4 := HS2.out.join R
  have S5 := tv_in (S4.new (below_alloc _ _) (own_bx _ 27 2 #[.slice T1.Ad T1.D.length T1.cd, .slice T1.Al T1.L.length T1.cl] rfl))
  have HG1 := Lib.hid (show Good T1.D T1.E by rw [hD1, hE1]; exact HG.out)
  have hd1 : dirOf T1.D q ≠ -1 := by rw [hD1]; exact HDN.out
  have HD1 := Lib.hid hD1
  have HE1 := Lib.hid hE1
  obtain ⟨Ad, cd, D, Al, cl, L⟩ := T1
  have h4 := HG1.out.len
  dsimp only at h4 hd1
  obtain ⟨b, o, rfl, hbl, hcd⟩ := (tv_rd S5).dirs h4
  obtain ⟨j, b2, o2, l, e, h1, h2, h3, hb2, h5, h51, h6, h7, hc0, hc1⟩ := entry_at (tv_rd S5) HG1.out hq hd1
  obtain ⟨b3, o3, hAl, hb3, hc3⟩ := (tv_rd S5).rowAt h2
  dsimp only at h1 h2 hAl hc3
  subst hAl
  obtain ⟨lA, lc, es⟩ := l
  dsimp only at h3 h5 h51 hc3
  subst h3
  have hrow := tv_leaf S5 h2
  obtain ⟨g2, hg2, _, _⟩ := own_someS hrow (by show 0 < es.length; omega)
  simp only [Option.some.injEq, Addr.mk.injEq, and_true] at hg2
  obtain ⟨rfl, rfl⟩ := hg2
  have hgt := dir_get h4 hq
  rw [h1] at hgt
  obtain ⟨a, ha⟩ : ∃ a, a = q / 4 := ⟨_, rfl⟩
  obtain ⟨r, hr4⟩ : ∃ r, r = q % 4 := ⟨_, rfl⟩
  rw [← ha] at hgt
  have hc := hcd.out a _ hgt
  have hqa : (q : Int) / 4 = (a : Int) := by omega
  have hqr : (q : Int) % 4 = (r : Int) := by omega
  have hqt : (q : Int).tmod 4 = (r : Int) := by rw [Int.tmod_eq_emod_of_nonneg (by omega)]; omega
  have hwa : IntKind.i64.wrap (a : Int) = (a : Int) := IntWalk.i64_in _ (by omega)
  have hwr : IntKind.i64.wrap (r : Int) = (r : Int) := IntWalk.i64_in _ (by omega)
  have ha0 : (0 : Int) ≤ (a : Int) := by omega
  have ha4 : (a : Int) < (D.length : Int) := by omega
  have hj0 : (0 : Int) ≤ (j : Int) := by omega
  have hjl : (j : Int) < (L.length : Int) := by have := (List.getElem?_eq_some_iff.1 h2).1; omega
  have hr0 : (0 : Int) ≤ (r : Int) := by omega
  have hr1 : (r : Int) < (4 : Int) := by omega
  have hne : ((j : Int) == -1) = false := by simp <;> omega
  have hr44 : r < 4 := by omega
  have C0 := own_box (tv_box S5)
  dsimp only at C0
  have CE := own_box (S5.own 1 _ rfl)
  have hrow4 := hrow
  rw [h5] at hrow4 hc3
  have hx := own_entry hrow4 hr44 ⟨f, fb⟩
  have HX := Lib.hid hx
  obtain ⟨⟨x0, y0, hx0, hy0⟩, hfz, _, _⟩ := hx
  have HS5 := Lib.hid S5
  have HH1 := Lib.hid h1
  have HH2 := Lib.hid h2
  have HH5 := Lib.hid h5
  have HR4 := Lib.hid hr4
  clear S4 S5 R hrow hrow4 h1 h2 h5 h51 h6 h7 hc0 hc1 hd1 hD1 hE1 hgt hcd h4 ha hr4
  go_wp2_with fail
  go_region_law (fail)
  all_goals
    have hS7 := (tv_put HS5.out (j := j) (l := ⟨some ⟨b2, 0, none⟩, lc, es⟩) HH2.out (es.set r ⟨f, fb⟩) (by simp) HX.out.2.2.2 (by
      have := HX.out.2.2.1
      show World.ownsRow _ _ _ _ (.slice _ es.length lc) es.length _
      rw [HH5.out]; exact this)).below (Below.drew (Below.refl _ _))
    generalize (World.setCell (World.setCell (w3.alloc (.cells #[.slice (some ⟨b, o, none⟩) D.length cd, .slice (some ⟨b3, o3, none⟩) L.length cl] 27)) ⟨b2, r * 2, none⟩ (.int .i64 f)) ⟨b2, r * 2 + 1, none⟩ (.bool fb)).drew = w6 at hS7 ⊢
    have C7 := own_box (tv_box hS7)
    have Z7 := own_lt (tv_box hS7)
    dsimp only at C7
    rw [List.length_set] at C7
    have C8 := own_box (hS7.own 2 _ rfl)
    have F8 := own_free (hS7.own 2 _ rfl)
    have HS7 := Lib.hid hS7
    clear hS7 C0 CE hx0 hy0 hfz hc hc3 hqa hqr hqt hwa hwr ha0 ha4 hj0 hjl hr0 hr1 hne
    go_wp2
    refine bodyPost_ret (v := .agg #[.slice (some ⟨b, o, none⟩) D.length cd, .slice (some ⟨b3, o3, none⟩) L.length cl]) (by simp [results, Try.results43, go_sem, C8]) rfl ?_
    have P3 := own_putAll [.slice (some ⟨b, o, none⟩) D.length cd, .slice (some ⟨b3, o3, none⟩) L.length cl] _ _ 0 (HS7.out.own 2 _ rfl)
    have S8 := HS7.out.write 2 rfl P3.2 _ P3.1
    have hDD : D = mapD T.D T.E q := by have := HD1.out; rw [mapD, if_neg HDN.out]; exact this
    have hEE : (⟨some ⟨b, o, none⟩, cd, D, some ⟨b3, o3, none⟩, cl, L.set j ⟨some ⟨b2, 0, none⟩, lc, es.set r ⟨f, fb⟩⟩⟩ : Tab).E = mapL T.D T.E q ⟨f, fb⟩ := by
      rw [tv_putE (T := ⟨some ⟨b, o, none⟩, cd, D, some ⟨b3, o3, none⟩, cl, L⟩) HH2.out, mapL, if_neg HDN.out, HE1.out]
      have h1 := HH1.out
      have h0 := HD1.out
      rw [h0] at h1
      rw [h1, Int.toNat_natCast, HR4.out]
      have h8 : T.E[j]? = some es := by rw [← HE1.out]; simp only [Tab.E, List.getElem?_map, HH2.out]; rfl
      rw [h8]; rfl
    refine ⟨⟨some ⟨b, o, none⟩, cd, D, some ⟨b3, o3, none⟩, cl, L.set j ⟨some ⟨b2, 0, none⟩, lc, es.set r ⟨f, fb⟩⟩⟩, ?_, hDD, hEE, tv_things (P := [_, _, _]) S8⟩
    show _ = Ending.returned (.agg #[_, .slice _ (L.set j _).length _])
    rw [List.length_set]

theorem Rd.oneAt (W : World) (x : Value) (t : TypeId) (k : Nat) (hk : W.heap.size = k) : Rd (W.alloc (.cells #[x] t)) 1 (some ⟨k, 0, none⟩) 1 [x] := by subst hk; exact Rd.one W x t
theorem lit4 (W : World) (B k : Nat) (hB : B ≤ W.heap.size) (hk : W.heap.size = k) : Own (W.alloc (.cells #[.int .i64 (-1), .bool false, .int .i64 (-1), .bool false, .int .i64 (-1), .bool false, .int .i64 (-1), .bool false] 67)) B (tL ⟨some ⟨k, 0, none⟩, 4, List.replicate 4 noE⟩) := by
  subst hk
  exact World.ownsRow_lit W #[.int .i64 (-1), .bool false, .int .i64 (-1), .bool false, .int .i64 (-1), .bool false, .int .i64 (-1), .bool false] 4 hB (by decide) rfl
set_option maxRecDepth 100000 in
set_option maxHeartbeats 8000000 in
theorem l4Map_new (T : Tab) (q : Nat) (f : Int) (fb : Bool) (w : World) (hr : RdT w T) (B : Bd T) (hg : Good T.D T.E) (hq : q < 16) (hd : dirOf T.D q = -1) :
    Calls Try.prog 43 #[tabV T, .int .i64 q, .agg #[.int .i64 f, .bool fb]] w fun e w' => ∃ T' : Tab, e = .returned (tabV T') ∧ T'.D = mapD T.D T.E q ∧ T'.E = mapL T.D T.E q ⟨f, fb⟩ ∧ Sep w w' T'.things := by
  have HRD := Lib.hid hr
  have HG := Lib.hid hg
  have HDN := Lib.hid hd
  obtain ⟨i1, hi1, hy0, hy1, hy2⟩ := info_parts Try.info71
  have HI1 := Lib.hid hi1
  have HY0 := Lib.hid hy0
  have HY1 := Lib.hid hy1
  have HY2 := Lib.hid hy2
  have S0 := (Sep.start w).new (below_alloc w _) (own_bx w 27 2 #[.slice T.Ad T.D.length T.cd, .slice T.Al T.L.length T.cl] rfl)
  have S1 := S0.new (below_alloc _ _) (own_bx _ 67 2 #[.int .i64 f, .bool fb] rfl)
  have S2 := S1.new (below_alloc _ _) (own_bx _ 27 2 #[.slice none 0 0, .slice none 0 0] rfl)
  simp only [List.nil_append, List.cons_append, size_alloc] at S2
  have HS2 := Lib.hid S2
  clear S0 S1 S2 hr hg hd hi1 hy0 hy1 hy2
  go_enter Try.func43, Try.ntmps43
  go_wp2_with fail
  refine (l4Own_any T _ (HRD.out.keep HS2.out.bel) B (good_leaf4 HG.out)).mono ?_
  rintro e0 w3 ⟨T1, rfl, hD1, hE1, R⟩
  have S4 := HS2.out.join R
  have S5 := tv_in (S4.new (below_alloc _ _) (own_bx _ 27 2 #[.slice T1.Ad T1.D.length T1.cd, .slice T1.Al T1.L.length T1.cl] rfl))
  have HG1 := Lib.hid (show Good T1.D T1.E by rw [hD1, hE1]; exact HG.out)
  have hd1 : dirOf T1.D q = -1 := by rw [hD1]; exact HDN.out
  have HD1 := Lib.hid hD1
  have HE1 := Lib.hid hE1
  obtain ⟨Ad, cd, D, Al, cl, L⟩ := T1
  have h4 := HG1.out.len
  have hL4 := HG1.out.len4
  rw [Tab.E_len] at hL4
  dsimp only at h4 hd1 hL4
  have hdir : Own _ w.heap.size (ti Ad D.length cd D) := Sep.ownMid (Q := []) (M := tvT w3.heap.size ⟨Ad, cd, D, Al, cl, L⟩) (by rw [List.append_nil]; exact S5) 1 rfl
  obtain ⟨b, rfl⟩ := own_some hdir (by omega)
  obtain ⟨b', o, hbo, hbl, hcd⟩ := (tv_rd S5).dirs h4
  simp only [Option.some.injEq, Addr.mk.injEq, and_true] at hbo
  obtain ⟨rfl, rfl⟩ := hbo
  have hgt := dir_get h4 hq
  rw [hd1] at hgt
  obtain ⟨a, ha⟩ : ∃ a, a = q / 4 := ⟨_, rfl⟩
  obtain ⟨r, hr4⟩ : ∃ r, r = q % 4 := ⟨_, rfl⟩
  rw [← ha] at hgt
  have hc := hcd.out a _ hgt
  rw [Nat.zero_add] at hc
  have hqa : (q : Int) / 4 = (a : Int) := by omega
  have hqr : (q : Int) % 4 = (r : Int) := by omega
  have ha0 : (0 : Int) ≤ (a : Int) := by omega
  have ha4 : (a : Int) < (D.length : Int) := by omega
  obtain ⟨_, hfz, hO2, hG2⟩ := own_store (xs := D) (n := D.length) (S4.own 3 _ rfl) (k := a) (by omega) (L.length : Int)
  have S4w := S4.write 3 rfl hG2 (I (D.set a (L.length : Int))) hO2
  have hth : Tab.things ⟨some ⟨b, 0, none⟩, cd, D.set a (L.length : Int), Al, cl, L⟩ = ti (some ⟨b, 0, none⟩) D.length cd (D.set a (L.length : Int)) :: rowsT Al cl L := by rw [things_rows]; simp only [List.length_set]
  have S5w := S4w.new (below_alloc _ _) (own_bx _ 27 2 #[.slice (some ⟨b, 0, none⟩) D.length cd, .slice Al L.length cl] rfl)
  have S6 := tv_in (P := [bx 27 2 w.heap.size [.slice T.Ad T.D.length T.cd, .slice T.Al T.L.length T.cl], bx 67 2 (w.heap.size + 1) [.int .i64 f, .bool fb], bx 27 2 (w.heap.size + 1 + 1) [.slice none 0 0, .slice none 0 0]]) (T := ⟨some ⟨b, 0, none⟩, cd, D.set a (L.length : Int), Al, cl, L⟩) (g := (w3.setCell ⟨b, a, none⟩ (.int .i64 (L.length : Int))).heap.size) (by rw [hth]; simp only [List.length_set]; exact S5w)
  have hsz : (w3.setCell ⟨b, a, none⟩ (.int .i64 (L.length : Int))).heap.size = w3.heap.size := by simp
  rw [hsz] at S6
  have hrows : Own _ w.heap.size (tR Al L.length cl L) := Sep.ownMid (Q := []) (P := [bx 27 2 w.heap.size [.slice T.Ad T.D.length T.cd, .slice T.Al T.L.length T.cl], bx 67 2 (w.heap.size + 1) [.int .i64 f, .bool fb], bx 27 2 (w.heap.size + 1 + 1) [.slice none 0 0, .slice none 0 0]]) (M := tvT w3.heap.size ⟨some ⟨b, 0, none⟩, cd, D.set a (L.length : Int), Al, cl, L⟩) (by rw [List.append_nil]; exact S6) 2 rfl
  have C0 := own_box (tv_box S5)
  dsimp only at C0
  have HS6 := Lib.hid S6
  have HROWS := Lib.hid hrows
  have HBS := Lib.hid S6.bel.size
  have HA := Lib.hid ha
  have HR4 := Lib.hid hr4
  have HH4 := Lib.hid h4
  have hw3 : w.heap.size ≤ w3.heap.size := by have := R.bel.size; simp at this; omega
  have hbw : b < w3.heap.size := (World.ownsRow.lt (R.own 0 _ rfl) b rfl).2
  clear S4 S4w S5w hth hsz S5 S6 R hdir hd1 hD1 hE1 hgt hcd h4 ha hr4 hO2 hG2 hrows
  go_wp2_with (at_builtin; refine wpList_app _ rfl _ _ 25 rfl w.heap.size 71 i1 (.slice none 0 0) 1 24 Try.underlying25 HI1.out HY0.out HY1.out HY2.out rfl (by decide) _ _ _ _ rfl (World.ownsRow.alloc (World.ownsRow.alloc (World.ownsRow.alloc HROWS.out _) _) _) _ _ _ _ rfl (Rd.oneAt _ _ _ _ (by simp)) (by simp [Value.oneCell']) (by unfold maxLen; omega) (by omega) (by simp; omega) ?_; intro A' c' w8 hown hgrow hat; obtain ⟨C3, F3, S7⟩ := tv_app HS6.out ⟨some ⟨w3.heap.size + 1 + 1, 0, none⟩, 4, List.replicate 4 noE⟩ ((below_alloc _ (.cells #[.int .i64 (-1), .bool false] 67)).alloc (by simp) _) (lit4 _ _ _ (by simp) (by simp)) _ hgrow hat hown; dsimp only at C3 S7; rw [List.length_set] at C3; have HS7 := Lib.hid S7; clear S7 hown hgrow hat)
  generalize (w8.setCell ⟨w3.heap.size, 1, none⟩ (.slice A' (L.length + 1) c')) = w7 at HS7 ⊢
  have S7 := HS7.out
  have C7 := own_box (tv_box S7)
  dsimp only at C7
  simp only [List.length_set, List.length_append, List.length_singleton] at C7
  have hrow7 : Own w7 w.heap.size (tR A' (L.length + 1) c' (L ++ [(⟨some ⟨w3.heap.size + 1 + 1, 0, none⟩, 4, List.replicate 4 noE⟩ : Leaf)])) := by
    have := Sep.ownMid (Q := []) (P := [bx 27 2 w.heap.size [.slice T.Ad T.D.length T.cd, .slice T.Al T.L.length T.cl], bx 67 2 (w.heap.size + 1) [.int .i64 f, .bool fb], bx 27 2 (w.heap.size + 1 + 1) [.slice none 0 0, .slice none 0 0]]) (M := tvT w3.heap.size ⟨some ⟨b, 0, none⟩, cd, D.set a (L.length : Int), A', c', L ++ [(⟨some ⟨w3.heap.size + 1 + 1, 0, none⟩, 4, List.replicate 4 noE⟩ : Leaf)]⟩) (by rw [List.append_nil]; exact S7) 2 rfl
    simpa only [List.length_append, List.length_singleton] using this
  obtain ⟨g3, rfl, _, _⟩ := own_someS hrow7 (by show 0 < L.length + 1; omega)
  have CE := own_box (S7.own 1 _ rfl)
  have hgl : (L ++ [(⟨some ⟨w3.heap.size + 1 + 1, 0, none⟩, 4, List.replicate 4 noE⟩ : Leaf)])[L.length]? = some ⟨some ⟨w3.heap.size + 1 + 1, 0, none⟩, 4, List.replicate 4 noE⟩ := by simp
  obtain ⟨b9, o9, hA9, hb9, hcr⟩ := (tv_rd S7).rowAt hgl
  simp only [Option.some.injEq, Addr.mk.injEq, and_true] at hA9
  obtain ⟨rfl, rfl⟩ := hA9
  dsimp only at hcr
  rw [Nat.zero_add] at hcr
  obtain ⟨b9, o9, hA9, hbd, hcd7⟩ := (tv_rd S7).dirAt (k := a) (d := (L.length : Int)) (by show (D.set a (L.length : Int))[a]? = _; rw [List.getElem?_set_self (by omega)])
  simp only [Option.some.injEq, Addr.mk.injEq, and_true] at hA9
  obtain ⟨rfl, rfl⟩ := hA9
  rw [Nat.zero_add] at hcd7
  have hrow9 := tv_leaf S7 hgl
  have hr44 : r < 4 := by omega
  have hx := own_entry hrow9 hr44 ⟨f, fb⟩
  have HX := Lib.hid hx
  obtain ⟨⟨x0, y0, hx0, hy0⟩, hfz9, _, _⟩ := hx
  have HGL := Lib.hid hgl
  have hqt : (q : Int).tmod 4 = (r : Int) := by rw [Int.tmod_eq_emod_of_nonneg (by omega)]; omega
  have hwa : IntKind.i64.wrap (a : Int) = (a : Int) := IntWalk.i64_in _ (by omega)
  have hwr : IntKind.i64.wrap (r : Int) = (r : Int) := IntWalk.i64_in _ (by omega)
  have hl0 : (0 : Int) ≤ (L.length : Int) := by omega
  have hl1 : (L.length : Int) < (L.length : Int) + 1 := by omega
  have hr0 : (0 : Int) ≤ (r : Int) := by omega
  have hr1 : (r : Int) < (4 : Int) := by omega
  have hlen4 : (List.replicate 4 noE).length = 4 := by simp
  rw [hlen4] at hcr
  clear S7 hrow7 hgl hrow9 C0 C3 F3 hc hfz hlen4
  go_region_law (fail)
  all_goals
    have hS7 := (tv_put HS7.out (j := L.length) (l := ⟨some ⟨w3.heap.size + 1 + 1, 0, none⟩, 4, List.replicate 4 noE⟩) HGL.out ((List.replicate 4 noE).set r ⟨f, fb⟩) (by simp) HX.out.2.2.2 HX.out.2.2.1).below (Below.drew (Below.refl _ _))
    generalize (World.setCell (World.setCell w7 ⟨w3.heap.size + 1 + 1, r * 2, none⟩ (.int .i64 f)) ⟨w3.heap.size + 1 + 1, r * 2 + 1, none⟩ (.bool fb)).drew = w6 at hS7 ⊢
    have D7 := own_box (tv_box hS7)
    have Z7 := own_lt (tv_box hS7)
    dsimp only at D7
    simp only [List.length_set, List.length_append, List.length_singleton] at D7
    have C8 := own_box (hS7.own 2 _ rfl)
    have F8 := own_free (hS7.own 2 _ rfl)
    have HS9 := Lib.hid hS7
    clear hS7 C7 CE hx0 hy0 hfz9 hcr hcd7 hqa hqr hqt hwa hwr ha0 ha4 hr0 hr1 hl0 hl1
    go_wp2
    refine bodyPost_ret (v := .agg #[.slice (some ⟨b, 0, none⟩) D.length cd, .slice (some ⟨g3, 0, none⟩) (L.length + 1) c']) (by simp [results, Try.results43, go_sem, C8]) rfl ?_
    have P3 := own_putAll [.slice (some ⟨b, 0, none⟩) D.length cd, .slice (some ⟨g3, 0, none⟩) (L.length + 1) c'] _ _ 0 (HS9.out.own 2 _ rfl)
    have S8 := HS9.out.write 2 rfl P3.2 _ P3.1
    have hDD : D.set a (L.length : Int) = mapD T.D T.E q := by
      have h0 := HD1.out
      have h1 := HE1.out
      rw [mapD, if_pos HDN.out, ← HA.out, ← h1, Tab.E_len, ← h0]
    have hEE : (⟨some ⟨b, 0, none⟩, cd, D.set a (L.length : Int), some ⟨g3, 0, none⟩, c', (L ++ [(⟨some ⟨w3.heap.size + 1 + 1, 0, none⟩, 4, List.replicate 4 noE⟩ : Leaf)]).set L.length (⟨some ⟨w3.heap.size + 1 + 1, 0, none⟩, 4, (List.replicate 4 noE).set r ⟨f, fb⟩⟩ : Leaf)⟩ : Tab).E = mapL T.D T.E q ⟨f, fb⟩ := by
      rw [tv_putE (T := ⟨some ⟨b, 0, none⟩, cd, D.set a (L.length : Int), some ⟨g3, 0, none⟩, c', L ++ [(⟨some ⟨w3.heap.size + 1 + 1, 0, none⟩, 4, List.replicate 4 noE⟩ : Leaf)]⟩) HGL.out, mapL, if_pos HDN.out, ← HE1.out, ← HR4.out]
      show (List.map Leaf.es (L ++ [_])).set L.length _ = List.map Leaf.es L ++ [_]
      rw [List.map_append, List.set_append_right _ _ (by simp), List.length_map, Nat.sub_self]
      rfl
    refine ⟨⟨some ⟨b, 0, none⟩, cd, D.set a (L.length : Int), some ⟨g3, 0, none⟩, c', (L ++ [(⟨some ⟨w3.heap.size + 1 + 1, 0, none⟩, 4, List.replicate 4 noE⟩ : Leaf)]).set L.length (⟨some ⟨w3.heap.size + 1 + 1, 0, none⟩, 4, (List.replicate 4 noE).set r ⟨f, fb⟩⟩ : Leaf)⟩, ?_, hDD, hEE, tv_things (P := [_, _, _]) S8⟩
    show _ = Ending.returned (.agg #[.slice _ (D.set a _).length _, .slice _ ((L ++ [_]).set L.length _).length _])
    rw [List.length_set, List.length_set, List.length_append, List.length_singleton]
theorem l4Map_any (T : Tab) (q : Nat) (f : Int) (fb : Bool) (w : World) (hr : RdT w T) (B : Bd T) (hg : Good T.D T.E) (hq : q < 16) :
    Calls Try.prog 43 #[tabV T, .int .i64 q, .agg #[.int .i64 f, .bool fb]] w fun e w' => ∃ T' : Tab, e = .returned (tabV T') ∧ T'.D = mapD T.D T.E q ∧ T'.E = mapL T.D T.E q ⟨f, fb⟩ ∧ Sep w w' T'.things := by
  by_cases hd : dirOf T.D q = -1
  · exact l4Map_new T q f fb w hr B hg hq hd
  · exact l4Map_old T q f fb w hr B hg hq hd
end Go.Proofs.Ytaaocnfbbajphaa
