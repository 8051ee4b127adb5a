/- Contracts of what is drawn for the law of mappings: DrawPagesOn, DrawMapRun, DrawTableOf, DrawIsWithin. The code of at most 65536 bytes. -/
import Derived.Test.YtaaocnfbbajphaaDa4
import Derived.Test.YtaaocnfbbajphaaOw
import Derived.Deep.CutBlock
import Derived.Test.YtaaocnfbbajphaaFa
namespace Go.Proofs.Ytaaocnfbbajphaa
open Go.RowKit
set_option linter.unusedVariables false
set_option linter.unusedSimpArgs false
attribute [local go_sem ↓] Go.wp_at_zero Go.wp_at_succ

theorem pages_at {q : Int → Bool} {D : List Int} {E : List (List REntry)} {x : Int} (h : x ∈ pagesL q D E 16) : ∃ p : Nat, x = (p : Int) ∧ p < 16 ∧ frO D E p ≠ -1 := by
  unfold pagesL at h
  obtain ⟨p, hp, rfl⟩ := List.mem_map.1 h
  have hf := (List.mem_filter.1 hp).2
  unfold pgB at hf
  rw [Bool.and_eq_true, bne_iff_ne] at hf
  exact ⟨p, rfl, List.mem_range.1 (List.mem_filter.1 hp).1, hf.1⟩
theorem ksetE {w : World} {b o g p : Nat} {u : Value} (h : b ≠ g) : (w.setCell ⟨g, p, none⟩ u).cell? ⟨b, o, none⟩ = w.cell? ⟨b, o, none⟩ := World.cell?_of_block (w := w) (heap_setCell_other w ⟨g, p, none⟩ b u h)
theorem list_cells {W0 w : World} {g k n c b : Nat} {P : List Thing} {xs : List Int} (S : SepC W0 w g k (P ++ [ti (some ⟨b, 0, none⟩) n c xs])) : ∀ i, i < n → w.cell? ⟨b, i, none⟩ = (I xs)[i]? := by
  intro i hi
  have ho := S.sep.own _ (ti (some ⟨b, 0, none⟩) n c xs) (by rw [List.getElem?_append_right (Nat.le_refl _), Nat.sub_self]; rfl)
  exact World.ownsRow.cellAt ho i (by show i < n * 1; omega)
theorem res_box3 {W0 w : World} {g k b : Nat} {Q R : List Thing} (S : SepC W0 w g k ([bx 27 2 b nT] ++ Q ++ R)) : Own w W0.heap.size (bx 27 2 b nT) := S.sep.own 0 _ rfl
set_option maxRecDepth 100000 in
set_option maxHeartbeats 8000000 in
theorem DrawPagesOn_any (A : Option Addr) (n ca : Nat) (w : World) (h : Code w w.heap.size A n) :
    Calls Try.prog 32 #[.slice A n ca] w fun e w' => ∃ (T : Tab) (f : Int), e = .returned (.tuple #[tabV T, .int .i64 f]) ∧ Sm T.D T.E ∧ Sep w w' T.things := by
  have HC := Lib.hid (SepC.start2 (c := ca) h)
  clear h
  go_enter Try.func32, Try.ntmps32
  go_wp2_with fail
  refine (table_any HC.out (by decide)).mono ?_
  rintro e w1 ⟨T, k1, rfl, hm, hk1, S1⟩
  have HS1 := Lib.hid S1
  have HM := Lib.hid hm
  clear S1 hm HC
  go_upto_region 3 with (fail)
  obtain ⟨w2, hw2⟩ : ∃ w2, w2 = w1.alloc (.cells #[.slice T.Ad T.D.length T.cd, .slice T.Al T.L.length T.cl] 27) := ⟨_, rfl⟩
  obtain ⟨gT, hgT⟩ : ∃ gT, gT = w1.heap.size := ⟨_, rfl⟩
  have HS2 : Hid (SepC w w2 (w.heap.size + 1) k1 (rT w ++ tvT gT T)) := by
    rw [hw2, hgT]
    exact (HS1.out.new (below_alloc _ _) (own_bx _ 27 2 #[.slice T.Ad T.D.length T.cd, .slice T.Al T.L.length T.cl] rfl)).tv_in
  have n1 : gT ≠ w.heap.size := by have := own_lt (res_box HS1.out); omega
  rw [← hw2, ← hgT]
  clear hw2 hgT HS1
  have HT : Hid (∀ w', Sep w w' (rT w ++ tvT gT T) → Td w' T) := fun w' S => Td.tv HM.out S
  obtain ⟨r, hr⟩ : ∃ r, goodB T.D T.E = r := ⟨_, rfl⟩
  have HR := Lib.hid hr
  have C := own_box (tvC_box (nil_r HS2.out))
  have D1 := Lib.hid (HT.out _ HS2.out.sep)
  cases r
  · clear hr
    go_wp2_with fail
    refine (l4Good_eq T _ D1.out.rd D1.out.bd.d D1.out.bd.n D1.out.bd.l D1.out.cap _ HR.out).mono ?_
    rintro e w3 ⟨rfl, hb3⟩
    have HS3 := Lib.hid (HS2.out.below hb3)
    clear hb3 HS2 D1 C
    go_upto_region 7 with (fail)
    have S0 := HS3.out.below (Below.drew (Below.refl _ _))
    have c0 := own_box (tvC_box (nil_r HS3.out))
    have dc0 : w3.cell? ⟨gT, 0, none⟩ = some (.slice T.Ad T.D.length T.cd) := c0 0
    have cc0 : w3.drew.cell? ⟨gT, 0, none⟩ = some (.slice T.Ad T.D.length T.cd) := dc0
    have dc1 : w3.cell? ⟨gT, 1, none⟩ = some (.slice T.Al T.L.length T.cl) := c0 1
    have cc1 : w3.drew.cell? ⟨gT, 1, none⟩ = some (.slice T.Al T.L.length T.cl) := dc1
    clear c0
    go_region_held3 (fun w' => w'.cell? ⟨gT, 0, none⟩ = some (.slice T.Ad T.D.length T.cd) ∧ w'.cell? ⟨gT, 1, none⟩ = some (.slice T.Al T.L.length T.cl)) (first | (with_reducible exact ⟨q0, q1⟩) | (with_reducible exact ⟨cc0, cc1⟩) | (refine ⟨?_, ?_⟩ <;> (repeat (first | (with_reducible exact q0) | (with_reducible exact q1) | (with_reducible exact cc0) | (with_reducible exact cc1) | (with_reducible exact dc0) | (with_reducible exact dc1) | (with_reducible refine ksetG (by omega) ?_) | (with_reducible refine kallocG ?_) | (with_reducible refine kdrewG ?_))))) (first
      | (go_at_call 38; refine (page_any S0.cu (by omega)).mono ?_; rintro e w5 ⟨x, hx, rfl, ⟨k5, hk5, hc5⟩, hf5⟩; have S5 := S0.step hc5 hf5; clear hc5 hf5; have D := own_box (res_box S5); have E := own_free (res_box S5); (try clear q0 q1); have q0 : w5.cell? ⟨gT, 0, none⟩ = some (.slice T.Ad T.D.length T.cd) := own_box (tvC_box (nil_r S5)) 0; have q1 : w5.cell? ⟨gT, 1, none⟩ = some (.slice T.Al T.L.length T.cl) := own_box (tvC_box (nil_r S5)) 1))
    all_goals
      have HS6 := Lib.hid S5
      clear S0 S5
      go_wp2
      refine bodyPost_ret (v := .tuple #[tabV T, .int .i64 x]) (by simp [results, Try.results32, go_sem, D, E]) rfl ?_
      exact ⟨T, x, rfl, HM.out, out_tv HS6.out _ _⟩
  · have HG := Lib.hid (goodB_iff.1 hr)
    clear hr
    go_wp2_with fail
    refine (l4Good_eq T _ D1.out.rd D1.out.bd.d D1.out.bd.n D1.out.bd.l D1.out.cap _ HR.out).mono ?_
    rintro e w3 ⟨rfl, hb3⟩
    have HS3 := Lib.hid (HS2.out.below hb3)
    clear hb3 HS2 D1 C
    go_wp2_with fail
    refine (one_any 2 HS3.out.cu (by omega) (by decide) (by decide)).mono ?_
    rintro e w4 ⟨b, rfl, ⟨k4, hk4, hc4⟩, hf4⟩
    have HS4 := Lib.hid (HS3.out.step hc4 hf4)
    clear hc4 hf4 HS3
    cases b
    · go_upto_region 7 with (fail)
      have S0 := HS4.out.below (Below.drew (Below.refl _ _))
      have c0 := own_box (tvC_box (nil_r HS4.out))
      have dc0 : w4.cell? ⟨gT, 0, none⟩ = some (.slice T.Ad T.D.length T.cd) := c0 0
      have cc0 : w4.drew.cell? ⟨gT, 0, none⟩ = some (.slice T.Ad T.D.length T.cd) := dc0
      have dc1 : w4.cell? ⟨gT, 1, none⟩ = some (.slice T.Al T.L.length T.cl) := c0 1
      have cc1 : w4.drew.cell? ⟨gT, 1, none⟩ = some (.slice T.Al T.L.length T.cl) := dc1
      clear c0
      go_region_held3 (fun w' => w'.cell? ⟨gT, 0, none⟩ = some (.slice T.Ad T.D.length T.cd) ∧ w'.cell? ⟨gT, 1, none⟩ = some (.slice T.Al T.L.length T.cl)) (first | (with_reducible exact ⟨q0, q1⟩) | (with_reducible exact ⟨cc0, cc1⟩) | (refine ⟨?_, ?_⟩ <;> (repeat (first | (with_reducible exact q0) | (with_reducible exact q1) | (with_reducible exact cc0) | (with_reducible exact cc1) | (with_reducible exact dc0) | (with_reducible exact dc1) | (with_reducible refine ksetG (by omega) ?_) | (with_reducible refine kallocG ?_) | (with_reducible refine kdrewG ?_))))) (first
        | (go_at_call 38; refine (page_any S0.cu (by omega)).mono ?_; rintro e w5 ⟨x, hx, rfl, ⟨k5, hk5, hc5⟩, hf5⟩; have S5 := S0.step hc5 hf5; clear hc5 hf5; have D := own_box (res_box S5); have E := own_free (res_box S5); (try clear q0 q1); have q0 : w5.cell? ⟨gT, 0, none⟩ = some (.slice T.Ad T.D.length T.cd) := own_box (tvC_box (nil_r S5)) 0; have q1 : w5.cell? ⟨gT, 1, none⟩ = some (.slice T.Al T.L.length T.cl) := own_box (tvC_box (nil_r S5)) 1))
      all_goals
        have HS6 := Lib.hid S5
        clear S0 S5
        go_wp2
        refine bodyPost_ret (v := .tuple #[tabV T, .int .i64 x]) (by simp [results, Try.results32, go_sem, D, E]) rfl ?_
        exact ⟨T, x, rfl, HM.out, out_tv HS6.out _ _⟩
    · have C := own_box (tvC_box (nil_r HS4.out))
      go_wp2_with fail
      refine (l4Mapped_any T _ (HT.out _ HS4.out.sep).rd HG.out).mono ?_
      rintro e w6 ⟨AL, cL, rfl, hoL, hb6⟩
      obtain ⟨xs, hxs⟩ : ∃ xs, xs = pagesL qAll T.D T.E 16 := ⟨_, rfl⟩
      have hmem : ∀ x ∈ xs, ∃ p : Nat, x = (p : Int) ∧ p < 16 ∧ frO T.D T.E p ≠ -1 := by rw [hxs]; exact fun x hx => pages_at hx
      have hlen : xs.length ≤ 16 := by rw [hxs]; exact pagesL_len _ _ _ _
      rw [← hxs] at hoL ⊢
      have HS6 := Lib.hid (HS4.out.new hb6 hoL)
      have HMEM := Lib.hid hmem
      have hlt4 := own_lt (res_box HS4.out)
      obtain ⟨nl, hnl⟩ : ∃ nl, nl = xs.length := ⟨_, rfl⟩
      rw [← hnl] at HS6 hlen hoL ⊢
      have HOL := Lib.hid hoL
      have HNL := Lib.hid hnl
      clear hb6 hoL hmem hxs C HS4 hnl
      cases nl with
      | zero =>
        have HS7 := Lib.hid HS6.out.take
        clear HS6
        go_upto_region 7 with (fail)
        have S0 := HS7.out.below (Below.drew (Below.refl _ _))
        have c0 := own_box (tvC_box (nil_r HS7.out))
        have dc0 : w6.cell? ⟨gT, 0, none⟩ = some (.slice T.Ad T.D.length T.cd) := c0 0
        have cc0 : w6.drew.cell? ⟨gT, 0, none⟩ = some (.slice T.Ad T.D.length T.cd) := dc0
        have dc1 : w6.cell? ⟨gT, 1, none⟩ = some (.slice T.Al T.L.length T.cl) := c0 1
        have cc1 : w6.drew.cell? ⟨gT, 1, none⟩ = some (.slice T.Al T.L.length T.cl) := dc1
        clear c0
        go_region_held3 (fun w' => w'.cell? ⟨gT, 0, none⟩ = some (.slice T.Ad T.D.length T.cd) ∧ w'.cell? ⟨gT, 1, none⟩ = some (.slice T.Al T.L.length T.cl)) (first | (with_reducible exact ⟨q0, q1⟩) | (with_reducible exact ⟨cc0, cc1⟩) | (refine ⟨?_, ?_⟩ <;> (repeat (first | (with_reducible exact q0) | (with_reducible exact q1) | (with_reducible exact cc0) | (with_reducible exact cc1) | (with_reducible exact dc0) | (with_reducible exact dc1) | (with_reducible refine ksetG (by omega) ?_) | (with_reducible refine kallocG ?_) | (with_reducible refine kdrewG ?_))))) (first
          | (go_at_call 38; refine (page_any S0.cu (by omega)).mono ?_; rintro e w5 ⟨x, hx, rfl, ⟨k5, hk5, hc5⟩, hf5⟩; have S5 := S0.step hc5 hf5; clear hc5 hf5; have D := own_box (res_box S5); have E := own_free (res_box S5); (try clear q0 q1); have q0 : w5.cell? ⟨gT, 0, none⟩ = some (.slice T.Ad T.D.length T.cd) := own_box (tvC_box (nil_r S5)) 0; have q1 : w5.cell? ⟨gT, 1, none⟩ = some (.slice T.Al T.L.length T.cl) := own_box (tvC_box (nil_r S5)) 1))
        all_goals
          have HS8 := Lib.hid S5
          clear S0 S5
          go_wp2
          refine bodyPost_ret (v := .tuple #[tabV T, .int .i64 x]) (by simp [results, Try.results32, go_sem, D, E]) rfl ?_
          exact ⟨T, x, rfl, HM.out, out_tv HS8.out _ _⟩
      | succ ml =>
        obtain ⟨bL, rfl, hbL, _⟩ := own_someS HOL.out (by show 0 < ml + 1; omega)
        have n2 : bL ≠ w.heap.size := by omega
        clear HOL
        have HX := Lib.hid (show ∀ j, j < ml + 1 → ∃ p : Nat, (I xs)[j]? = some (.int .i64 (p : Int)) ∧ p < 16 ∧ frO T.D T.E p ≠ -1 from fun j hj => by
          obtain ⟨x, hx⟩ : ∃ x, xs[j]? = some x := ⟨_, List.getElem?_eq_getElem (by have := HNL.out; omega)⟩
          obtain ⟨p, rfl, h1, h2⟩ := HMEM.out x (List.mem_of_getElem? hx)
          exact ⟨p, by simp [I, hx], h1, h2⟩)
        have hl0 : (0 : Int) < (ml : Int) + 1 := by omega
        go_upto_region 6 with (fail)
        have S0 := HS6.out.below (Below.drew (Below.refl _ _))
        have dc0 : w6.cell? ⟨gT, 0, none⟩ = some (.slice T.Ad T.D.length T.cd) := own_box (tvC_box HS6.out) 0
        have cc0 : w6.drew.cell? ⟨gT, 0, none⟩ = some (.slice T.Ad T.D.length T.cd) := dc0
        have dc1 : w6.cell? ⟨gT, 1, none⟩ = some (.slice T.Al T.L.length T.cl) := own_box (tvC_box HS6.out) 1
        have cc1 : w6.drew.cell? ⟨gT, 1, none⟩ = some (.slice T.Al T.L.length T.cl) := dc1
        have cc2 : ∀ i, i < ml + 1 → w6.drew.cell? ⟨bL, i, none⟩ = (I xs)[i]? := list_cells S0
        go_region_held3 (fun w' => w'.cell? ⟨gT, 0, none⟩ = some (.slice T.Ad T.D.length T.cd) ∧ w'.cell? ⟨gT, 1, none⟩ = some (.slice T.Al T.L.length T.cl) ∧ (∀ i, i < ml + 1 → w'.cell? ⟨bL, i, none⟩ = (I xs)[i]?)) (first | (with_reducible exact ⟨q0, q1, q2⟩) | (with_reducible exact ⟨cc0, cc1, cc2⟩) | (refine ⟨?_, ?_, (by first | exact q2 | (intro i hi; first | exact (ksetE n2).trans (q2 i hi) | exact (ksetE n2).trans ((ksetE n2).trans (q2 i hi))))⟩ <;> (repeat (first | (with_reducible exact q0) | (with_reducible exact q1) | (with_reducible refine ksetG (by omega) ?_))))) (first
          | (go_at_call 76; refine (pick_any ((ml : Int) + 1) S0.cu (by omega) (by omega) (by omega)).mono ?_; rintro e w8 ⟨j, ⟨hj0, hj1, _⟩, rfl, ⟨k8, hk8, hc8⟩, hf8⟩; obtain ⟨j, rfl⟩ := Int.eq_ofNat_of_zero_le hj0; have hj2 := hj1 (by omega); have hj3 : (j : Int) < (ml : Int) + 1 := hj2; obtain ⟨p, hpj, hp16, hpf⟩ := HX.out j (by omega); have S8 := S0.step hc8 hf8; clear hc8 hf8 hj1; (try clear q0 q1 q2); have q0 : w8.cell? ⟨gT, 0, none⟩ = some (.slice T.Ad T.D.length T.cd) := (own_box (tvC_box S8) 0); have q1 : w8.cell? ⟨gT, 1, none⟩ = some (.slice T.Al T.L.length T.cl) := (own_box (tvC_box S8) 1); have q2 : (∀ i, i < ml + 1 → w8.cell? ⟨bL, i, none⟩ = (I xs)[i]?) := list_cells S8; have hj4 : j < ml + 1 := (by omega); have HS8 := Lib.hid S8; clear S0 S8)
          | (go_at_call 42; obtain ⟨⟨f0, f1⟩, hfe⟩ : ∃ e, getE T.D T.E p = e := ⟨_, rfl⟩; refine (l4Get_at T p f0 f1 _ (tvC_rd HS8.out) HG.out hp16 hfe).mono ?_; rintro e w9 ⟨rfl, hb9⟩; have hfd := fieldE0 f0 f1; have S9 := HS8.out.below hb9; (try clear q0 q1 q2); have q0 : w9.cell? ⟨gT, 0, none⟩ = some (.slice T.Ad T.D.length T.cd) := (own_box (tvC_box S9) 0); have q1 : w9.cell? ⟨gT, 1, none⟩ = some (.slice T.Al T.L.length T.cl) := (own_box (tvC_box S9) 1); have q2 : (∀ i, i < ml + 1 → w9.cell? ⟨bL, i, none⟩ = (I xs)[i]?) := list_cells S9; have D := own_box (res_box3 S9); have E := own_free (res_box3 S9); have HS9 := Lib.hid S9; clear S9))
        all_goals
          clear q0 q1 q2
          go_wp2
          refine bodyPost_ret (v := .tuple #[tabV T, .int .i64 f0]) (by simp [results, Try.results32, go_sem, D, E]) rfl ?_
          exact ⟨T, f0, rfl, HM.out, out_tv HS9.out.take _ _⟩

/-- a table of another call copied into the variable gT -/
theorem SepC.moveT {W0 w : World} {g k gT : Nat} {P : List Thing} {T T6 : Tab} (S : SepC W0 w g k (P ++ tvT gT T ++ T6.things)) :
    SepC W0 ((w.setCell ⟨gT, 0, none⟩ (.slice T6.Ad T6.D.length T6.cd)).setCell ⟨gT, 1, none⟩ (.slice T6.Al T6.L.length T6.cl)) g k (P ++ tvT gT T6) := by
  have S1 : SepC W0 w g k (P ++ bx 27 2 gT [.slice T.Ad T.D.length T.cd, .slice T.Al T.L.length T.cl] :: (T.things ++ T6.things)) := by
    rw [List.append_assoc] at S; exact S
  have S2 := S1.put (.slice T6.Ad T6.D.length T6.cd) (.slice T6.Al T6.L.length T6.cl)
  have S3 : SepC W0 ((w.setCell ⟨gT, 0, none⟩ (.slice T6.Ad T6.D.length T6.cd)).setCell ⟨gT, 1, none⟩ (.slice T6.Al T6.L.length T6.cl)) g k ((P ++ [bx 27 2 gT [.slice T6.Ad T6.D.length T6.cd, .slice T6.Al T6.L.length T6.cl]]) ++ T.things ++ T6.things) := by
    simp only [List.append_assoc, List.cons_append, List.nil_append] at S2 ⊢
    exact S2
  have S4 := S3.dropMid
  rw [List.append_assoc] at S4
  exact S4
set_option maxRecDepth 100000 in
set_option maxHeartbeats 8000000 in
theorem DrawMapRun_any (A : Option Addr) (n ca : Nat) (w : World) (h : Code w w.heap.size A n) :
    Calls Try.prog 26 #[.slice A n ca] w fun e w' => ∃ (T : Tab) (p f c : Int) (b : Bool), e = .returned (.tuple #[tabV T, .int .i64 p, .int .i64 f, .int .i64 c, .bool b]) ∧ (-1 ≤ p ∧ p ≤ 16) ∧ (-1 ≤ f ∧ f ≤ 16) ∧ (0 ≤ c ∧ c ≤ 17) ∧ Sm T.D T.E ∧ Sep w w' T.things := by
  have HC := Lib.hid (SepC.start2 (c := ca) h)
  clear h
  go_enter Try.func26, Try.ntmps26
  go_wp2_with fail
  refine (table_any HC.out (by decide)).mono ?_
  rintro e w1 ⟨T, k1, rfl, hm, hk1, S1⟩
  have HS1 := Lib.hid S1
  have HM := Lib.hid hm
  clear S1 hm HC
  go_upto_region 3 with (fail)
  obtain ⟨w2, hw2⟩ : ∃ w2, w2 = w1.alloc (.cells #[.slice T.Ad T.D.length T.cd, .slice T.Al T.L.length T.cl] 27) := ⟨_, rfl⟩
  obtain ⟨gT, hgT⟩ : ∃ gT, gT = w1.heap.size := ⟨_, rfl⟩
  have HS2 : Hid (SepC w w2 (w.heap.size + 1) k1 (rT w ++ tvT gT T)) := by
    rw [hw2, hgT]
    exact (HS1.out.new (below_alloc _ _) (own_bx _ 27 2 #[.slice T.Ad T.D.length T.cd, .slice T.Al T.L.length T.cl] rfl)).tv_in
  have n1 : gT ≠ w.heap.size := by have := own_lt (res_box HS1.out); omega
  rw [← hw2, ← hgT]
  clear hw2 hgT HS1
  go_wp2_with fail
  refine (one_any 2 HS2.out.cu (by omega) (by decide) (by decide)).mono ?_
  rintro e w3 ⟨b, rfl, ⟨k3, hk3, hc3⟩, hf3⟩
  have HS3 := Lib.hid (HS2.out.step hc3 hf3)
  clear hc3 hf3 HS2
  go_upto_if 15 with (fail)
  go_cut [] from 16 to 16 (fun wx => ∃ (T' : Tab) (k' : Nat) (wy : World), wy = wx ∧ k' ≤ k1 + 2 ∧ Hid (Sm T'.D T'.E) ∧ Hid (SepC w wx (w.heap.size + 1) k' (rT w ++ tvT gT T')))
  case first =>
    cases b
    · go_wp2
      go_meet
      exact ⟨T, k3, _, rfl, by omega, HM, HS3⟩
    · go_wp2_with fail
      refine (l4New_any _).mono ?_
      rintro e w4 ⟨T0, rfl, hD0, hE0, R⟩
      have HM0 := Lib.hid (sn_new hD0 hE0).sm
      have HS4 := Lib.hid (HS3.out.join R)
      clear R hD0 hE0
      have C := own_box (tvC_box (Q := T0.things) HS4.out)
      have E := own_free (tvC_box (Q := T0.things) HS4.out)
      go_wp2
      go_meet
      exact ⟨T0, k3, _, rfl, by omega, HM0, HS4.out.moveT⟩
  case rest =>
    obtain ⟨T, k2, w9, rfl, hk2, HM, HS2⟩ := hcut
    go_upto_region 5 with (fail)
    have S0 := HS2.out.below (Below.drew (Below.refl _ _))
    have S1 := (HS2.out.below (below_alloc _ (.cells #[.int .i64 1, .int .i64 2, .int .i64 3, .int .i64 4, .int .i64 0, .int .i64 6, .int .i64 16, .int .i64 17] 3))).below (Below.drew (Below.refl _ _))
    have XL1 := (Box.new _ 3 #[.int .i64 1, .int .i64 2, .int .i64 3, .int .i64 4, .int .i64 0, .int .i64 6, .int .i64 16, .int .i64 17] : Box (w9.alloc (.cells #[.int .i64 1, .int .i64 2, .int .i64 3, .int .i64 4, .int .i64 0, .int .i64 6, .int .i64 16, .int .i64 17] 3)) w9.heap.size 3 #[.int .i64 1, .int .i64 2, .int .i64 3, .int .i64 4, .int .i64 0, .int .i64 6, .int .i64 16, .int .i64 17]).drew
    have hcl2 := HS2.out.cu.lt
    have c0 := own_box (tvC_box (nil_r HS2.out))
    have dc0 : w9.cell? ⟨gT, 0, none⟩ = some (.slice T.Ad T.D.length T.cd) := c0 0
    have cc0 : w9.drew.cell? ⟨gT, 0, none⟩ = some (.slice T.Ad T.D.length T.cd) := dc0
    have dc1 : w9.cell? ⟨gT, 1, none⟩ = some (.slice T.Al T.L.length T.cl) := c0 1
    have cc1 : w9.drew.cell? ⟨gT, 1, none⟩ = some (.slice T.Al T.L.length T.cl) := dc1
    clear c0
    go_region_held3 (fun w' => w'.cell? ⟨gT, 0, none⟩ = some (.slice T.Ad T.D.length T.cd) ∧ w'.cell? ⟨gT, 1, none⟩ = some (.slice T.Al T.L.length T.cl)) (first | (with_reducible exact ⟨q0, q1⟩) | (with_reducible exact ⟨cc0, cc1⟩) | (refine ⟨?_, ?_⟩ <;> (repeat (first | (with_reducible exact q0) | (with_reducible exact q1) | (with_reducible exact cc0) | (with_reducible exact cc1) | (with_reducible exact dc0) | (with_reducible exact dc1) | (with_reducible refine ksetG (by omega) ?_) | (with_reducible refine kallocG ?_) | (with_reducible refine kdrewG ?_))))) (first
      | (go_at_call 38; (first | (have Sa := S0; refine (page_any Sa.cu (by omega)).mono ?_) | (have Sa := S1; have XL := XL1; refine (page_any Sa.cu (by omega)).mono ?_)); rintro e w5 ⟨p, hxp, rfl, ⟨kw5, hkw5, hcw5⟩, hfw5⟩; have Sw5 := Sa.step hcw5 hfw5; (first | (have XL := XL.farC hfw5 (by omega)) | skip); clear Sa hcw5 hfw5; (try clear q0 q1); have q0 : w5.cell? ⟨gT, 0, none⟩ = some (.slice T.Ad T.D.length T.cd) := own_box (tvC_box (nil_r Sw5)) 0; have q1 : w5.cell? ⟨gT, 1, none⟩ = some (.slice T.Al T.L.length T.cl) := own_box (tvC_box (nil_r Sw5)) 1)
      | (go_at_call 38; (first | (have Sa := Sw5; refine (page_any Sa.cu (by omega)).mono ?_) | (have Sa := Sw5.below (below_alloc w5 (.cells #[.int .i64 1, .int .i64 2, .int .i64 3, .int .i64 4, .int .i64 0, .int .i64 6, .int .i64 16, .int .i64 17] 3)); have XL := Box.new w5 3 #[.int .i64 1, .int .i64 2, .int .i64 3, .int .i64 4, .int .i64 0, .int .i64 6, .int .i64 16, .int .i64 17]; have hcl5 := Sw5.cu.lt; refine (page_any Sa.cu (by omega)).mono ?_)); rintro e w6 ⟨f, hxf, rfl, ⟨kw6, hkw6, hcw6⟩, hfw6⟩; have Sw6 := Sa.step hcw6 hfw6; (first | (have XL := XL.farC hfw6 (by omega)) | skip); clear Sa hcw6 hfw6; (try clear q0 q1); have q0 : w6.cell? ⟨gT, 0, none⟩ = some (.slice T.Ad T.D.length T.cd) := own_box (tvC_box (nil_r Sw6)) 0; have q1 : w6.cell? ⟨gT, 1, none⟩ = some (.slice T.Al T.L.length T.cl) := own_box (tvC_box (nil_r Sw6)) 1)
      | (go_at_call 74; (first | (have Sb := Sw6; refine (among_box 0 17 8 _ _ _ XL Sb.cu (by omega) (by omega) (by omega) (by omega) (by decide) _ (by decide)).mono ?_) | (have Sb := Sw6.below (below_alloc w6 (.cells #[.int .i64 1, .int .i64 2, .int .i64 3, .int .i64 4, .int .i64 0, .int .i64 6, .int .i64 16, .int .i64 17] 3)); have XL := Box.new w6 3 #[.int .i64 1, .int .i64 2, .int .i64 3, .int .i64 4, .int .i64 0, .int .i64 6, .int .i64 16, .int .i64 17]; have hcl6 := Sw6.cu.lt; refine (among_box 0 17 8 _ _ _ XL Sb.cu (by omega) (by omega) (by omega) (by omega) (by decide) _ (by decide)).mono ?_)); rintro e w7 ⟨c, hc, rfl, ⟨k7, hk7, hc7⟩, hf7⟩; have S7 := Sb.step hc7 hf7; clear hc7 hf7; (try clear q0 q1); have q0 : w7.cell? ⟨gT, 0, none⟩ = some (.slice T.Ad T.D.length T.cd) := own_box (tvC_box (nil_r S7)) 0; have q1 : w7.cell? ⟨gT, 1, none⟩ = some (.slice T.Al T.L.length T.cl) := own_box (tvC_box (nil_r S7)) 1)
      | (go_at_call 39; refine (one_any 2 S7.cu (by omega) (by decide) (by decide)).mono ?_; rintro e w8 ⟨b, rfl, ⟨k8, hk8, hc8⟩, hf8⟩; have S8 := S7.step hc8 hf8; clear hc8 hf8; have D := own_box (res_box S8); have E := own_free (res_box S8); (try clear q0 q1); have q0 : w8.cell? ⟨gT, 0, none⟩ = some (.slice T.Ad T.D.length T.cd) := own_box (tvC_box (nil_r S8)) 0; have q1 : w8.cell? ⟨gT, 1, none⟩ = some (.slice T.Al T.L.length T.cl) := own_box (tvC_box (nil_r S8)) 1))
    all_goals
      have HS6 := Lib.hid S8
      clear S0 S1 Sw5 Sw6 S7 S8
      go_wp2
      refine bodyPost_ret (v := .tuple #[tabV T, .int .i64 p, .int .i64 f, .int .i64 c, .bool b]) (by simp [results, Try.results26, go_sem, D, E]) rfl ?_
      exact ⟨T, p, f, c, b, rfl, hxp, hxf, hc, HM.out, out_tv HS6.out _ _⟩

/-- two lists of numbers of the call's own -/
def TofP (w : World) (e : Ending) (w' : World) : Prop := ∃ (A1 A2 : Option Addr) (n1 c1 n2 c2 : Nat) (xs ys : List Int), e = .returned (.tuple #[.slice A1 n1 c1, .slice A2 n2 c2]) ∧ n1 ≤ 20 ∧ n2 ≤ 20 ∧ Sep w w' [ti A1 n1 c1 xs, ti A2 n2 c2 ys]
set_option maxRecDepth 100000 in
set_option maxHeartbeats 8000000 in
theorem DrawTableOf_any (A : Option Addr) (n ca : Nat) (w : World) (h : Code w w.heap.size A n) :
    Calls Try.prog 34 #[.slice A n ca] w (TofP w) := by
  obtain ⟨i0, hi, hz0, hz1, hz2⟩ := info_parts Try.info3
  have HI := Lib.hid hi
  have HZ0 := Lib.hid hz0
  have HZ1 := Lib.hid hz1
  have HZ2 := Lib.hid hz2
  have S0 := SepC.start (c := ca) h
  have S1 := S0.new (below_alloc _ (.cells #[] 3)) (own_empty 1 (Box.new _ 3 #[]) (Nat.le_refl _))
  have S2 := S1.new (below_alloc _ (.cells #[] 3)) (own_empty 1 (Box.new _ 3 #[]) (Nat.le_refl _))
  simp only [List.nil_append, List.cons_append, size_alloc] at S2
  have HS0 := Lib.hid S2
  clear h hi hz0 hz1 hz2 S0 S1 S2
  go_enter Try.func34, Try.ntmps34
  go_wp2_with fail
  refine (pick_any 6 HS0.out.cu (by omega) (by decide) (by decide)).mono ?_
  rintro e w1 ⟨m, ⟨hm0, hm1, _⟩, rfl, ⟨k1, hk1, hc1⟩, hf1⟩
  have hm2 := hm1 (by decide)
  have HS1 := Lib.hid (HS0.out.step hc1 hf1)
  clear hc1 hf1 hm1 HS0
  obtain ⟨m, rfl⟩ := Int.eq_ofNat_of_zero_le hm0
  go_wp2
  go_loopw [5, 6, 7] (fun s5 s6 i wr => ∃ (m q n1 c1 n2 c2 : Nat) (A1 A2 : Option Addr) (xs ys : List Int), m ≤ 6 ∧ n1 + m ≤ 6 ∧ n2 + m ≤ 6 ∧ i = .int .i64 m ∧ s5 = .slice A1 n1 c1 ∧ s6 = .slice A2 n2 c2 ∧ q + 20 * m ≤ 200 ∧ Hid (SepC w wr w.heap.size q [ti A1 n1 c1 xs, ti A2 n2 c2 ys])) (fun _ _ i _ => (intOf i).toNat)
  case atStart => exact ⟨m, k1, 0, 0, 0, 0, _, _, [], [], by omega, by omega, by omega, rfl, rfl, rfl, by omega, HS1⟩
  case round =>
    obtain ⟨m, q, n1, c1, n2, c2, A1, A2, xs, ys, hm, hn1, hn2, rfl, rfl, rfl, hq, HS⟩ := hrel
    clear HS1
    by_cases hlt : 0 < m
    · have h0 : (0 : Int) < (m : Int) := by omega
      go_wp2_with fail
      refine (page_any HS.out.cu (by omega)).mono ?_
      rintro e w3 ⟨x, _, rfl, ⟨k3, hk3, hc3⟩, hf3⟩
      have HS3 := Lib.hid (HS.out.step hc3 hf3)
      clear hc3 hf3 HS
      have R3 := Lib.hid (HS3.out.sep.own 0 _ rfl).rd
      obtain ⟨r, hr⟩ : ∃ r, memB xs x = r := ⟨_, rfl⟩
      have HR := Lib.hid hr
      clear hr
      go_wp2_with fail
      refine (l1Has_eq A1 n1 c1 xs x _ R3.out (by omega) r HR.out).mono ?_
      rintro e w4 ⟨rfl, rfl⟩
      clear R3 HR
      cases r
      · have hOwa := HS3.out.sep.own 0 _ rfl
        have hswa := HS3.out.sep.bel.size
        go_wp2_with (at_builtin; refine wpList_app _ rfl _ _ 24 rfl w.heap.size 3 i0 (.int .i64 0) 1 8 Try.underlying24 HI.out HZ0.out HZ1.out HZ2.out rfl (by decide) _ _ _ _ rfl (World.ownsRow.alloc hOwa _) _ _ _ _ rfl (Rd.one _ _ _) (by simp [Value.oneCell']) (by unfold maxLen; omega) (by omega) (by simp; omega) ?_; intro Ab cb wa hownwa hgrowwa hatwa)
        have HSa := Lib.hid ((HS3.out.below (below_alloc _ _)).app 0 rfl hgrowwa hatwa (own_int hownwa))
        clear hgrowwa hownwa hatwa hOwa HS3
        go_wp2_with fail
        refine (pick_any 16 HSa.out.cu (by omega) (by decide) (by decide)).mono ?_
        rintro e wb ⟨y, _, rfl, ⟨kb, hkb, hcb⟩, hfb⟩
        have HSb := Lib.hid (HSa.out.step hcb hfb)
        clear hcb hfb HSa
        have hOwc := HSb.out.sep.own 1 _ rfl
        have hswc := HSb.out.sep.bel.size
        go_wp2_with (at_builtin; refine wpList_app _ rfl _ _ 24 rfl w.heap.size 3 i0 (.int .i64 0) 1 8 Try.underlying24 HI.out HZ0.out HZ1.out HZ2.out rfl (by decide) _ _ _ _ rfl (World.ownsRow.alloc hOwc _) _ _ _ _ rfl (Rd.one _ _ _) (by simp [Value.oneCell']) (by unfold maxLen; omega) (by omega) (by simp; omega) ?_; intro Ac cc wc hownwc hgrowwc hatwc)
        have HSc := Lib.hid ((HSb.out.below (below_alloc _ _)).app 1 rfl hgrowwc hatwc (own_int hownwc))
        clear hgrowwc hownwc hatwc hOwc HSb
        go_wp2
        go_roundw
        case rel =>
          refine ⟨m - 1, kb, n1 + 1, cb, n2 + 1, cc, Ab, Ac, _, _, by omega, by omega, by omega, ?_, rfl, rfl, by omega, HSc⟩
          rw [Int.natCast_sub (by omega)]; rfl
        case measure => simp [intOf]; omega
      · go_wp2_with fail
        refine (one_any 12 HS3.out.cu (by omega) (by decide) (by decide)).mono ?_
        rintro e w5 ⟨b, rfl, ⟨k5, hk5, hc5⟩, hf5⟩
        have HS5 := Lib.hid (HS3.out.step hc5 hf5)
        clear hc5 hf5 HS3
        cases b
        · go_wp2
          go_roundw
          case rel =>
            refine ⟨m - 1, k5, n1, c1, n2, c2, A1, A2, xs, ys, by omega, by omega, by omega, ?_, rfl, rfl, by omega, HS5⟩
            rw [Int.natCast_sub (by omega)]; rfl
          case measure => simp [intOf]; omega
        · have hOwa := HS5.out.sep.own 0 _ rfl
          have hswa := HS5.out.sep.bel.size
          go_wp2_with (at_builtin; refine wpList_app _ rfl _ _ 24 rfl w.heap.size 3 i0 (.int .i64 0) 1 8 Try.underlying24 HI.out HZ0.out HZ1.out HZ2.out rfl (by decide) _ _ _ _ rfl (World.ownsRow.alloc hOwa _) _ _ _ _ rfl (Rd.one _ _ _) (by simp [Value.oneCell']) (by unfold maxLen; omega) (by omega) (by simp; omega) ?_; intro Ab cb wa hownwa hgrowwa hatwa)
          have HSa := Lib.hid ((HS5.out.below (below_alloc _ _)).app 0 rfl hgrowwa hatwa (own_int hownwa))
          clear hgrowwa hownwa hatwa hOwa HS5
          go_wp2_with fail
          refine (pick_any 16 HSa.out.cu (by omega) (by decide) (by decide)).mono ?_
          rintro e wb ⟨y, _, rfl, ⟨kb, hkb, hcb⟩, hfb⟩
          have HSb := Lib.hid (HSa.out.step hcb hfb)
          clear hcb hfb HSa
          have hOwc := HSb.out.sep.own 1 _ rfl
          have hswc := HSb.out.sep.bel.size
          go_wp2_with (at_builtin; refine wpList_app _ rfl _ _ 24 rfl w.heap.size 3 i0 (.int .i64 0) 1 8 Try.underlying24 HI.out HZ0.out HZ1.out HZ2.out rfl (by decide) _ _ _ _ rfl (World.ownsRow.alloc hOwc _) _ _ _ _ rfl (Rd.one _ _ _) (by simp [Value.oneCell']) (by unfold maxLen; omega) (by omega) (by simp; omega) ?_; intro Ac cc wc hownwc hgrowwc hatwc)
          have HSc := Lib.hid ((HSb.out.below (below_alloc _ _)).app 1 rfl hgrowwc hatwc (own_int hownwc))
          clear hgrowwc hownwc hatwc hOwc HSb
          go_wp2
          go_roundw
          case rel =>
            refine ⟨m - 1, kb, n1 + 1, cb, n2 + 1, cc, Ab, Ac, _, _, by omega, by omega, by omega, ?_, rfl, rfl, by omega, HSc⟩
            rw [Int.natCast_sub (by omega)]; rfl
          case measure => simp [intOf]; omega
    · obtain rfl : m = 0 := by omega
      go_wp2_with fail
      refine (one_any 24 HS.out.cu (by omega) (by decide) (by decide)).mono ?_
      rintro e w3 ⟨b, rfl, ⟨k3, hk3, hc3⟩, hf3⟩
      have HS3 := Lib.hid (HS.out.step hc3 hf3)
      clear hc3 hf3 HS
      cases b
      · go_wp2
        refine bodyPost_ret (v := .tuple #[.slice A1 n1 c1, .slice A2 n2 c2]) (by simp [results, Try.results34, go_sem]) rfl ?_
        exact ⟨A1, A2, n1, c1, n2, c2, xs, ys, rfl, by omega, by omega, HS3.out.sep⟩
      · go_wp2_with fail
        refine (among_lit 0 16 2 _ _ HS3.out.cu (by omega) rfl (by omega) (by omega) (by decide)).mono ?_
        rintro e w4 ⟨y, _, rfl, ⟨k4, hk4, hc4⟩, hf4⟩
        have HS4 := Lib.hid (HS3.out.step hc4 hf4)
        clear hc4 hf4 HS3
        have hOwc := HS4.out.sep.own 1 _ rfl
        have hswc := HS4.out.sep.bel.size
        go_wp2_with (at_builtin; refine wpList_app _ rfl _ _ 24 rfl w.heap.size 3 i0 (.int .i64 0) 1 8 Try.underlying24 HI.out HZ0.out HZ1.out HZ2.out rfl (by decide) _ _ _ _ rfl (World.ownsRow.alloc hOwc _) _ _ _ _ rfl (Rd.one _ _ _) (by simp [Value.oneCell']) (by unfold maxLen; omega) (by omega) (by simp; omega) ?_; intro Ac cc wc hownwc hgrowwc hatwc)
        have HS9 := Lib.hid ((HS4.out.below (below_alloc _ _)).app 1 rfl hgrowwc hatwc (own_int hownwc))
        clear hgrowwc hownwc hatwc hOwc HS4
        go_wp2
        refine bodyPost_ret (v := .tuple #[.slice A1 n1 c1, .slice Ac (n2 + 1) cc]) (by simp [results, Try.results34, go_sem]) rfl ?_
        exact ⟨A1, Ac, n1, c1, n2 + 1, cc, xs, _, rfl, by omega, by omega, HS9.out.sep⟩

theorem l1Least_any (a b : Int) (w : World) : Calls Try.prog 68 #[.int .i64 a, .int .i64 b] w fun e w' => e = .returned (.int .i64 (if a < b then a else b)) ∧ w = w' := by
  by_cases h : a < b
  · go_enter Try.func68, Try.ntmps68
    go_wp2
    go_ret
    exact ⟨by first | rfl | (rw [if_pos h]; rfl) | simp [h], by first | rfl | trivial⟩
  · go_enter Try.func68, Try.ntmps68
    go_wp2
    go_ret
    exact ⟨by first | rfl | (rw [if_neg h]; rfl) | simp [h], by first | rfl | trivial⟩
/-- the reader has gone on, and a thing of the call's own is new -/
theorem SepC.stepNew {W0 w w' : World} {g k k' : Nat} {L : List Thing} {t : Thing} (S : SepC W0 w g k L) (hc : Cu w' W0.heap.size g k') (hf : Far g w w') (ho : Own w' w.heap.size t) : SepC W0 w' g k' (L ++ [t]) := by
  have S' := S.step hc hf
  have hidx : ∀ (i : Nat) (s : Thing), (L ++ [t])[i]? = some s → (L[i]? = some s ∧ i < L.length) ∨ (s = t ∧ L.length = i) := by
    intro i s hs
    rw [List.getElem?_append] at hs
    split at hs
    · rename_i hl; exact .inl ⟨hs, hl⟩
    · rename_i hl
      have h0 : i - L.length = 0 := by
        have := (List.getElem?_eq_some_iff.1 hs).1
        simp at this; omega
      rw [h0] at hs
      exact .inr ⟨(Option.some.inj hs).symm, by omega⟩
  have hlo : ∀ (i : Nat) (s : Thing), L[i]? = some s → ∀ b, blk s.A = some b → b < w.heap.size := fun i s hs b hb => ((S.sep.own i s hs).lt b (by rw [ownBlock_slice]; exact hb)).2
  have hhi : ∀ b, blk t.A = some b → w.heap.size ≤ b := fun b hb => (ho.lt b (by rw [ownBlock_slice]; exact hb)).1
  refine ⟨⟨S'.sep.bel, fun i s hs => ?_, fun i j s u hij hs hu => ?_⟩, S'.cu, fun u hu => ?_⟩
  · rcases hidx i s hs with ⟨h1, _⟩ | ⟨rfl, _⟩
    · exact S'.sep.own i s h1
    · exact own_less ho S.sep.bel.size
  · rcases hidx i s hs with ⟨h1, _⟩ | ⟨rfl, hi⟩ <;> rcases hidx j u hu with ⟨h2, _⟩ | ⟨rfl, hj⟩
    · exact S'.sep.apart i j s u hij h1 h2
    · cases hs' : blk s.A with
      | none => exact .inl rfl
      | some b =>
        refine .inr fun e => ?_
        have h3 := hlo i s h1 b hs'
        have h4 := hhi b e.symm
        omega
    · cases hs' : blk s.A with
      | none => exact .inl rfl
      | some b =>
        refine .inr fun e => ?_
        have h3 := hhi b hs'
        have h4 := hlo j u h2 b e.symm
        omega
    · omega
  · rcases List.mem_append.1 hu with h | h
    · exact S'.far u h
    · obtain rfl := List.mem_singleton.1 h
      intro e
      have h1 := hhi g e
      have h2 := S.cu.lt
      omega
/-- a number stored into a list -/
theorem SepC.storeMid {W0 w : World} {g k b n c p : Nat} {P Q : List Thing} {ys : List Int} (S : SepC W0 w g k (P ++ [ti (some ⟨b, 0, none⟩) n c ys] ++ Q)) (hp : p < n) (x : Int) :
    (∃ y, w.cell? ⟨b, p, none⟩ = some (.int .i64 y)) ∧ (∀ q, w.frozen? ⟨b, q, none⟩ = false) ∧ SepC W0 (w.setCell ⟨b, p, none⟩ (.int .i64 x)) g k (P ++ [ti (some ⟨b, 0, none⟩) n c (ys.set p x)] ++ Q) := by
  have hi : (P ++ [ti (some ⟨b, 0, none⟩) n c ys] ++ Q)[P.length]? = some (ti (some ⟨b, 0, none⟩) n c ys) := by
    rw [List.append_assoc, List.getElem?_append_right (Nat.le_refl _), Nat.sub_self]; rfl
  have ho := S.sep.own _ _ hi
  obtain ⟨hy, hfz, hO, hG⟩ := own_store ho (k := p) hp x
  have S2 := S.write P.length hi hG _ hO
  rw [List.append_assoc, List.set_append_right _ _ (Nat.le_refl _), Nat.sub_self] at S2
  refine ⟨hy, fun q => World.ownsRow.frozenAt ho q, ?_⟩
  rw [List.append_assoc]
  exact S2
theorem own_midC {W0 w : World} {g k : Nat} {P Q : List Thing} {t : Thing} (S : SepC W0 w g k (P ++ [t] ++ Q)) : Own w W0.heap.size t := S.sep.ownMid 0 rfl
theorem own_lastC {W0 w : World} {g k : Nat} {P : List Thing} {t : Thing} (S : SepC W0 w g k (P ++ [t])) : Own w W0.heap.size t := S.sep.own _ t (by rw [List.getElem?_append_right (Nat.le_refl _), Nat.sub_self]; rfl)
theorem out_two {W0 w : World} {g k b gT : Nat} {T : Tab} {t : Thing} (S : SepC W0 w g k ([bx 27 2 b nT] ++ tvT gT T ++ [t])) (u v : Value) :
    Sep W0 ((w.setCell ⟨b, 0, none⟩ u).setCell ⟨b, 1, none⟩ v) (T.things ++ [t]) := Sep.tail (Sep.tail (SepC.put (P := []) (Q := tvT gT T ++ [t]) (by rw [List.append_assoc] at S; exact S) u v).sep)
def IwP (w : World) (e : Ending) (w' : World) : Prop := ∃ (T : Tab) (A : Option Addr) (n c : Nat) (xs : List Int) (g : Int), e = .returned (.tuple #[tabV T, .slice A n c, .int .i64 g]) ∧ n ≤ 20 ∧ Sm T.D T.E ∧ Sep w w' (T.things ++ [ti A n c xs])
theorem td_mid {W0 w : World} {P Q : List Thing} {gT : Nat} {T : Tab} (hm : Sm T.D T.E) (S : Sep W0 w (P ++ tvT gT T ++ Q)) : Td w T :=
  ⟨Sep.rdT (Sep.tail (Sep.mid S)), hm.bd, own_cap (S.ownMid (M := tvT gT T) 1 rfl)⟩
theorem tv_cell2 {W0 w : World} {g k gT : Nat} {P Q R : List Thing} {T : Tab} (S : SepC W0 w g k (P ++ tvT gT T ++ Q ++ R)) : ∀ i, w.cell? ⟨gT, i, none⟩ = #[.slice T.Ad T.D.length T.cd, .slice T.Al T.L.length T.cl][i]? :=
  own_box (tvC_box (Q := Q ++ R) (by rw [List.append_assoc] at S; exact S))
theorem tv_rd2 {W0 w : World} {g k gT : Nat} {P Q R : List Thing} {T : Tab} (S : SepC W0 w g k (P ++ tvT gT T ++ Q ++ R)) : RdT w T := tvC_rd (Q := Q ++ R) (by rw [List.append_assoc] at S; exact S)
set_option maxRecDepth 100000 in
set_option maxHeartbeats 8000000 in
theorem DrawIsWithin_any (A : Option Addr) (n ca : Nat) (w : World) (h : Code w w.heap.size A n) :
    Calls Try.prog 23 #[.slice A n ca] w (IwP w) := by
  have HC := Lib.hid (SepC.start2 (c := ca) h)
  clear h
  go_enter Try.func23, Try.ntmps23
  go_wp2_with fail
  refine (table_any HC.out (by decide)).mono ?_
  rintro e w1 ⟨T, k1, rfl, hm, hk1, S1⟩
  have HS1 := Lib.hid S1
  have HM := Lib.hid hm
  clear S1 hm HC
  go_wp2_with fail
  refine (owners_any HS1.out.cu (by omega)).mono ?_
  rintro e w2 ⟨Ao, no, co, xs, rfl, hno, hoo, ⟨k2, hk2, hc2⟩, hf2⟩
  have HS2 := Lib.hid (HS1.out.stepNew hc2 hf2 hoo)
  clear hoo hc2 hf2 HS1
  go_wp2_with fail
  refine (guest_any HS2.out.cu (by omega)).mono ?_
  rintro e w3 ⟨gu, _, rfl, ⟨k3, hk3, hc3⟩, hf3⟩
  have HS3 := Lib.hid (HS2.out.step hc3 hf3)
  clear hc3 hf3 HS2
  go_upto_region 3 with (fail)
  obtain ⟨w4, hw4⟩ : ∃ x, x = w3.alloc (.cells #[.slice T.Ad T.D.length T.cd, .slice T.Al T.L.length T.cl] 27) := ⟨_, rfl⟩
  obtain ⟨gT, hgT⟩ : ∃ x, x = w3.heap.size := ⟨_, rfl⟩
  have HS4 : Hid (SepC w w4 (w.heap.size + 1) k3 (rT w ++ tvT gT T ++ [ti Ao no co xs])) := by
    rw [hw4, hgT]
    refine SepC.perm (HS3.out.new (below_alloc _ _) (own_bx _ 27 2 #[.slice T.Ad T.D.length T.cd, .slice T.Al T.L.length T.cl] rfl)) ?_
    show (rT w ++ T.things ++ [ti Ao no co xs] ++ [_]).Perm (rT w ++ (_ :: T.things) ++ [ti Ao no co xs])
    rw [List.append_assoc, List.append_assoc, List.append_assoc]
    refine List.Perm.append_left _ ?_
    rw [← List.append_assoc, List.cons_append]
    exact List.perm_append_comm
  rw [← hw4, ← hgT]
  clear hw4 hgT HS3
  have HT : Hid (∀ w', Sep w w' (rT w ++ tvT gT T ++ [ti Ao no co xs]) → Td w' T) := fun w' S => td_mid HM.out S
  obtain ⟨r, hr⟩ : ∃ r, goodB T.D T.E = r := ⟨_, rfl⟩
  have HR := Lib.hid hr
  have C := own_box (tvC_box HS4.out)
  have D1 := Lib.hid (HT.out _ HS4.out.sep)
  cases r
  · clear hr
    go_wp2_with fail
    refine (l4Good_eq T _ D1.out.rd D1.out.bd.d D1.out.bd.n D1.out.bd.l D1.out.cap _ HR.out).mono ?_
    rintro e w5 ⟨rfl, hb5⟩
    have HS5 := Lib.hid (HS4.out.below hb5)
    clear hb5 HS4 D1 C
    have C := own_box (tvC_box HS5.out)
    have D := own_box (res_box3 HS5.out)
    have E := own_free (res_box3 HS5.out)
    go_wp2
    refine bodyPost_ret (v := .tuple #[tabV T, .slice Ao no co, .int .i64 gu]) (by simp [results, Try.results23, go_sem, D, E]) rfl ?_
    exact ⟨T, Ao, no, co, xs, gu, rfl, hno, HM.out, out_two HS5.out _ _⟩
  have HG := Lib.hid (goodB_iff.1 hr)
  clear hr
  go_wp2_with fail
  refine (l4Good_eq T _ D1.out.rd D1.out.bd.d D1.out.bd.n D1.out.bd.l D1.out.cap _ HR.out).mono ?_
  rintro e w5 ⟨rfl, hb5⟩
  have HS5 := Lib.hid (HS4.out.below hb5)
  clear hb5 HS4 D1 C
  obtain ⟨ob, hob⟩ : ∃ r, ownB xs = r := ⟨_, rfl⟩
  have HOB := Lib.hid hob
  clear hob
  have R5 := Lib.hid (own_lastC HS5.out).rd
  go_wp2_with fail
  refine (l2Good_eq Ao no co xs _ R5.out (by omega) ob HOB.out).mono ?_
  rintro e w6 ⟨rfl, rfl⟩
  clear R5 HOB
  cases ob
  · have C := own_box (tvC_box HS5.out)
    have D := own_box (res_box3 HS5.out)
    have E := own_free (res_box3 HS5.out)
    go_wp2
    refine bodyPost_ret (v := .tuple #[tabV T, .slice Ao no co, .int .i64 gu]) (by simp [results, Try.results23, go_sem, D, E]) rfl ?_
    exact ⟨T, Ao, no, co, xs, gu, rfl, hno, HM.out, out_two HS5.out _ _⟩
  go_wp2_with fail
  refine (one_any 3 HS5.out.cu (by omega) (by decide) (by decide)).mono ?_
  rintro e w6 ⟨b, rfl, ⟨k6, hk6, hc6⟩, hf6⟩
  have HS6 := Lib.hid (HS5.out.step hc6 hf6)
  clear hc6 hf6 HS5
  cases b
  rotate_left
  · have C := own_box (tvC_box HS6.out)
    have D := own_box (res_box3 HS6.out)
    have E := own_free (res_box3 HS6.out)
    go_wp2
    refine bodyPost_ret (v := .tuple #[tabV T, .slice Ao no co, .int .i64 gu]) (by simp [results, Try.results23, go_sem, D, E]) rfl ?_
    exact ⟨T, Ao, no, co, xs, gu, rfl, hno, HM.out, out_two HS6.out _ _⟩
  by_cases hgu : 0 < gu
  rotate_left
  · have C := own_box (tvC_box HS6.out)
    have D := own_box (res_box3 HS6.out)
    have E := own_free (res_box3 HS6.out)
    go_wp2
    refine bodyPost_ret (v := .tuple #[tabV T, .slice Ao no co, .int .i64 gu]) (by simp [results, Try.results23, go_sem, D, E]) rfl ?_
    exact ⟨T, Ao, no, co, xs, gu, rfl, hno, HM.out, out_two HS6.out _ _⟩
  have C := own_box (tvC_box HS6.out)
  go_wp2_with fail
  refine (l4Mapped_any T _ (HT.out _ HS6.out.sep).rd HG.out).mono ?_
  rintro e w7 ⟨AL, cL, rfl, hoL, hb7⟩
  obtain ⟨ps, hps⟩ : ∃ ps, ps = pagesL qAll T.D T.E 16 := ⟨_, rfl⟩
  have hmem : ∀ x ∈ ps, ∃ p : Nat, x = (p : Int) ∧ p < 16 ∧ frO T.D T.E p ≠ -1 := by rw [hps]; exact fun x hx => pages_at hx
  have hlen : ps.length ≤ 16 := by rw [hps]; exact pagesL_len _ _ _ _
  rw [← hps] at hoL ⊢
  have HS7 := Lib.hid (HS6.out.new hb7 hoL)
  have HMEM := Lib.hid hmem
  obtain ⟨nl, hnl⟩ : ∃ nl, nl = ps.length := ⟨_, rfl⟩
  rw [← hnl] at HS7 hlen ⊢
  have HNL := Lib.hid hnl
  clear hb7 hoL hmem hps C HS6 hnl
  go_wp2
  go_loopw [10] (fun i wr => ∃ (k : Nat) (ys : List Int), k ≤ nl ∧ i = .int .i64 k ∧ Hid (SepC w wr (w.heap.size + 1) k6 (rT w ++ tvT gT T ++ [ti Ao no co ys] ++ [ti AL nl cL ps]))) (fun i _ => nl - (intOf i).toNat)
  case atStart => exact ⟨0, xs, by omega, rfl, HS7⟩
  case round =>
    obtain ⟨k, ys, hk, rfl, HS⟩ := hrel
    clear HS7
    by_cases hlt : k < nl
    · obtain ⟨bL, rfl, _, _⟩ := own_someS (own_lastC HS.out) (by show 0 < nl; omega)
      obtain ⟨x, hx⟩ : ∃ x, ps[k]? = some x := ⟨_, List.getElem?_eq_getElem (by have := HNL.out; omega)⟩
      obtain ⟨p, rfl, hp16, hpf⟩ := HMEM.out x (List.mem_of_getElem? hx)
      have hxi : (I ps)[k]? = some (.int .i64 (p : Int)) := by simp [I, hx]
      have HXI := Lib.hid hxi
      obtain ⟨⟨f0, f1⟩, hfe⟩ : ∃ e, getE T.D T.E p = e := ⟨_, rfl⟩
      have hfr := HG.out.frame hp16
      have hfz : frO T.D T.E p = f0 := by unfold frO; rw [hfe]
      rw [hfz] at hfr hpf
      have HFE := Lib.hid hfe
      obtain ⟨fN, rfl⟩ := Int.eq_ofNat_of_zero_le (show 0 ≤ f0 by omega)
      clear hx hxi hfe hfz hpf
      have h1 : (k : Int) < (nl : Int) := by omega
      have S0 := HS.out.below (Below.drew (Below.refl _ _))
      have dc0 : wr.cell? ⟨gT, 0, none⟩ = some (.slice T.Ad T.D.length T.cd) := tv_cell2 HS.out 0
      have cc0 : wr.drew.cell? ⟨gT, 0, none⟩ = some (.slice T.Ad T.D.length T.cd) := dc0
      have dc1 : wr.cell? ⟨gT, 1, none⟩ = some (.slice T.Al T.L.length T.cl) := tv_cell2 HS.out 1
      have cc1 : wr.drew.cell? ⟨gT, 1, none⟩ = some (.slice T.Al T.L.length T.cl) := dc1
      have dc2 : wr.cell? ⟨bL, k, none⟩ = some (.int .i64 (p : Int)) := (list_cells HS.out k hlt).trans HXI.out
      have cc2 : wr.drew.cell? ⟨bL, k, none⟩ = some (.int .i64 (p : Int)) := dc2
      go_upto_region 8 with (fail)
      go_region_held3 (fun w' => w'.cell? ⟨gT, 0, none⟩ = some (.slice T.Ad T.D.length T.cd) ∧ w'.cell? ⟨gT, 1, none⟩ = some (.slice T.Al T.L.length T.cl) ∧ w'.cell? ⟨bL, k, none⟩ = some (.int .i64 (p : Int))) (first | (with_reducible exact ⟨q0, q1, q2⟩) | (with_reducible exact ⟨cc0, cc1, cc2⟩)) (first
        | (go_at_call 42; refine (l4Get_at T p fN f1 _ (tv_rd2 S0) HG.out hp16 HFE.out).mono ?_; rintro e w9 ⟨rfl, hb9⟩; have hfd := fieldE0 fN f1; have S9 := S0.below hb9; have HS9 := Lib.hid S9; (try clear q0 q1 q2); have q0 : w9.cell? ⟨gT, 0, none⟩ = some (.slice T.Ad T.D.length T.cd) := tv_cell2 S9 0; have q1 : w9.cell? ⟨gT, 1, none⟩ = some (.slice T.Al T.L.length T.cl) := tv_cell2 S9 1; have q2 : w9.cell? ⟨bL, k, none⟩ = some (.int .i64 (p : Int)) := (list_cells S9 k hlt).trans HXI.out))
      all_goals
        clear S0 S9 q0 q1 q2 dc0 dc1 dc2 cc0 cc1 cc2 hfd HS
        by_cases hfn : fN < no
        · obtain ⟨bo, rfl, _, _⟩ := own_someS (own_midC HS9.out) (by show 0 < no; omega)
          have hfn2 : (fN : Int) < (no : Int) := by omega
          go_wp2_with fail
          refine (l1Least_any gu 4 _).mono ?_
          rintro e w10 ⟨rfl, rfl⟩
          obtain ⟨⟨y, hy⟩, hfz, S10⟩ := SepC.storeMid HS9.out hfn (if gu < 4 then gu else 4)
          have HS10 := Lib.hid S10
          clear S10
          go_wp2
          go_roundw
          case rel => exact ⟨k + 1, _, by omega, by go_num, HS10⟩
          case measure => simp [intOf]; omega
        · have hfn2 : ¬ (fN : Int) < (no : Int) := by omega
          go_wp2
          go_roundw
          case rel => exact ⟨k + 1, ys, by omega, by go_num, HS9⟩
          case measure => simp [intOf]; omega
    · have HS9 := Lib.hid HS.out.take
      have C := own_box (tvC_box HS9.out)
      have D := own_box (res_box3 HS9.out)
      have E := own_free (res_box3 HS9.out)
      go_wp2
      refine bodyPost_ret (v := .tuple #[tabV T, .slice Ao no co, .int .i64 gu]) (by simp [results, Try.results23, go_sem, D, E]) rfl ?_
      exact ⟨T, Ao, no, co, ys, gu, rfl, hno, HM.out, out_two HS9.out _ _⟩
end Go.Proofs.Ytaaocnfbbajphaa
