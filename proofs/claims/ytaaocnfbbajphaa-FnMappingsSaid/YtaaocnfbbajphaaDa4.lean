/- Contracts of the reader of choices: pageOf; of what is drawn: DrawMapPage, DrawUnmapPage, DrawTranslate, DrawProtectPage, DrawIsTable, DrawMappedPages. The code of at most 65536 bytes. -/
import Derived.Test.YtaaocnfbbajphaaCr4
namespace Go.Proofs.Ytaaocnfbbajphaa
open Go.RowKit
set_option linter.unusedVariables false
set_option linter.unusedSimpArgs false
attribute [local go_sem ↓] Go.wp_at_zero Go.wp_at_succ

/-- a table that is read -/
structure Td (w : World) (T : Tab) : Prop where
  rd : RdT w T
  bd : Bd T
  cap : T.D.length ≤ T.cd ∧ T.cd ≤ maxLen
theorem Td.keep {w w' : World} {T : Tab} (h : Td w T) (hb : Below w.heap.size w w') : Td w' T := ⟨h.rd.keep hb, h.bd, h.cap⟩
theorem Td.of {W0 w : World} {P Q : List Thing} {T : Tab} (hm : Sm T.D T.E) (S : Sep W0 w (P ++ T.things ++ Q)) : Td w T :=
  ⟨(Sep.mid S).rdT, hm.bd, own_cap (S.ownMid (M := T.things) 0 rfl)⟩
theorem Td.tv {W0 w : World} {P : List Thing} {gT : Nat} {T : Tab} (hm : Sm T.D T.E) (S : Sep W0 w (P ++ tvT gT T)) : Td w T := by
  have S' : Sep W0 w (P ++ tvT gT T ++ []) := by rw [List.append_nil]; exact S
  exact ⟨Sep.rdT (Sep.tail (Sep.mid S')), hm.bd, own_cap (S'.ownMid (M := tvT gT T) 1 rfl)⟩
theorem pagesL_in {q : Int → Bool} {D : List Int} {E : List (List REntry)} {k : Nat} {x : Int} (h : x ∈ pagesL q D E k) : 0 ≤ x ∧ x < (k : Int) := by
  unfold pagesL at h
  obtain ⟨p, hp, rfl⟩ := List.mem_map.1 h
  have := List.mem_range.1 (List.mem_filter.1 hp).1
  omega
set_option maxRecDepth 100000 in
set_option maxHeartbeats 4000000 in
theorem pageOf_any {W0 w : World} {g k : Nat} {L : List Thing} {T : Tab} (hT : ∀ w', Sep W0 w' L → Td w' T) (S : SepC W0 w g k L) (hk : k ≤ 700000) :
    Calls Try.prog 57 #[.pointer (some ⟨g, 0, none⟩), tabV T] w fun e w' => ∃ (x : Int) (k' : Nat), (-1 ≤ x ∧ x ≤ 16) ∧ e = .returned (.int .i64 x) ∧ k' ≤ k + 10 ∧ SepC W0 w' g k' L := by
  have HS1 := Lib.hid (S.new (below_alloc w _) (own_bx w 27 2 #[.slice T.Ad T.D.length T.cd, .slice T.Al T.L.length T.cl] rfl))
  have HT := Lib.hid hT
  clear S hT
  obtain ⟨r, hr⟩ : ∃ r, goodB T.D T.E = r := ⟨_, rfl⟩
  have HR := Lib.hid hr
  cases r
  · clear hr
    go_enter Try.func57, Try.ntmps57
    go_wp2_with fail
    have D1 := HT.out _ HS1.out.take.sep
    refine (l4Good_eq T _ D1.rd D1.bd.d D1.bd.n D1.bd.l D1.cap _ HR.out).mono ?_
    rintro e w1 ⟨rfl, hb⟩
    have HS2 := Lib.hid (HS1.out.below hb)
    clear hb D1
    go_wp2_with fail
    refine (page_any HS2.out.cu (by omega)).mono ?_
    rintro e w2 ⟨x, hx, rfl, ⟨k2, hk2, hc2⟩, hf2⟩
    have HS3 := Lib.hid (HS2.out.step hc2 hf2)
    clear hc2 hf2
    go_wp2
    go_ret
    exact ⟨x, k2, hx, rfl, by omega, HS3.out.take⟩
  · have HG := Lib.hid (goodB_iff.1 hr)
    clear hr
    go_enter Try.func57, Try.ntmps57
    go_wp2_with fail
    have D1 := HT.out _ HS1.out.take.sep
    refine (l4Good_eq T _ D1.rd D1.bd.d D1.bd.n D1.bd.l D1.cap _ HR.out).mono ?_
    rintro e w1 ⟨rfl, hb⟩
    have HS2 := Lib.hid (HS1.out.below hb)
    clear hb D1
    go_wp2_with fail
    refine (one_any 4 HS2.out.cu (by omega) (by decide) (by decide)).mono ?_
    rintro e w2 ⟨r, rfl, ⟨k2, hk2, hc2⟩, hf2⟩
    have HS3 := Lib.hid (HS2.out.step hc2 hf2)
    clear hc2 hf2
    cases r
    · have C3 := HS3.out.box L.length (by rw [List.getElem?_append_right (Nat.le_refl _), Nat.sub_self]; rfl)
      go_wp2_with fail
      refine (l4Mapped_any T _ (HT.out _ HS3.out.take.sep).rd HG.out).mono ?_
      rintro e w3 ⟨A, c, rfl, ho, hb⟩
      have S4 := HS3.out.new hb ho
      obtain ⟨xs, hxs⟩ : ∃ xs, xs = pagesL qAll T.D T.E 16 := ⟨_, rfl⟩
      have hlen : xs.length ≤ 16 := by rw [hxs]; exact pagesL_len _ _ _ _
      have hmem : ∀ x ∈ xs, 0 ≤ x ∧ x < 16 := by rw [hxs]; intro x hx; exact pagesL_in hx
      rw [← hxs] at S4 ⊢
      have HS4 := Lib.hid S4
      have HM := Lib.hid hmem
      clear hb ho S4 hmem hxs C3
      by_cases h0 : xs.length = 0
      · have h1 : ((xs.length : Int) == 0) = true := by rw [h0]; rfl
        go_wp2_with fail
        refine (page_any (k := k2) HS4.out.cu (by omega)).mono ?_
        rintro e w5 ⟨x, hx, rfl, ⟨k5, hk5, hc5⟩, hf5⟩
        have HS5 := Lib.hid (HS4.out.step hc5 hf5)
        clear hc5 hf5
        go_wp2
        go_ret
        exact ⟨x, k5, hx, rfl, by omega, HS5.out.take.take⟩
      · have h1 : ((xs.length : Int) == 0) = false := by rw [beq_eq_false_iff_ne]; omega
        go_wp2_with fail
        refine (pick_any (k := k2) (xs.length : Int) HS4.out.cu (by omega) (by omega) (by omega)).mono ?_
        rintro e w5 ⟨j, ⟨hj0, hj1, _⟩, rfl, ⟨k5, hk5, hc5⟩, hf5⟩
        have hj2 := hj1 (by omega)
        have HS5 := Lib.hid (HS4.out.step hc5 hf5)
        clear hc5 hf5 hj1
        obtain ⟨j, rfl⟩ := Int.eq_ofNat_of_zero_le hj0
        obtain ⟨x, hx⟩ : ∃ x, xs[j]? = some x := ⟨_, List.getElem?_eq_getElem (by omega)⟩
        have hO : Rd w5 1 A xs.length (I xs) := (HS5.out.sep.own _ (ti A xs.length c xs) (by rw [List.getElem?_append_right (Nat.le_refl _), Nat.sub_self]; rfl)).rd
        obtain ⟨b, o, rfl, hbl, hcell⟩ := hO.cellAt (k := j) (u := .int .i64 x) (by simp [I, hx])
        have hxx := HM.out x (List.mem_of_getElem? hx)
        clear hO
        go_wp2
        go_ret
        exact ⟨x, k5, by omega, rfl, by omega, HS5.out.take.take⟩
    · go_wp2_with fail
      refine (page_any HS3.out.cu (by omega)).mono ?_
      rintro e w4 ⟨x, hx, rfl, ⟨k4, hk4, hc4⟩, hf4⟩
      have HS4 := Lib.hid (HS3.out.step hc4 hf4)
      clear hc4 hf4
      go_wp2
      go_ret
      exact ⟨x, k4, hx, rfl, by omega, HS4.out.take⟩

theorem code_up {w w' : World} {B B' n : Nat} {A : Option Addr} (h : Code w B A n) (hb : Below w.heap.size w w') (hB : B ≤ B') : Code w' B' A n :=
  ⟨h.1, fun hn => by
    obtain ⟨b, o, e, h1, h2, h3⟩ := h.2 hn
    refine ⟨b, o, e, Nat.lt_of_lt_of_le h1 hB, Nat.lt_of_lt_of_le h2 hb.size, fun i hi => ?_⟩
    rw [hb.cell (p := ⟨b, o + i, none⟩) h2]
    exact h3 i hi⟩
abbrev nT : List Value := [.slice none 0 0, .slice none 0 0]
abbrev rT (w : World) : List Thing := [bx 27 2 w.heap.size nT]
/-- the variable of the result, and a fresh reader behind it -/
theorem SepC.start2 {w : World} {A : Option Addr} {n c : Nat} (h : Code w w.heap.size A n) : SepC w ((w.alloc (.cells #[.slice none 0 0, .slice none 0 0] 27)).alloc (.cells #[.slice A n c, .int .i64 0, .int .u64 0] 60)) (w.heap.size + 1) 0 (rT w) := by
  have h1 := Box.new (w.alloc (.cells #[.slice none 0 0, .slice none 0 0] 27)) 60 #[.slice A n c, .int .i64 0, .int .u64 0]
  rw [size_alloc] at h1
  have hb1 := below_alloc w (.cells #[.slice none 0 0, .slice none 0 0] 27)
  have hb2 := below_next hb1 (below_alloc _ (.cells #[.slice A n c, .int .i64 0, .int .u64 0] 60))
  have S := ((Sep.start w).new hb1 (own_bx w 27 2 #[.slice none 0 0, .slice none 0 0] rfl)).below (below_alloc _ (.cells #[.slice A n c, .int .i64 0, .int .u64 0] 60))
  refine ⟨S, ⟨Nat.le_succ _, A, n, c, 0, h1, h.1, fun hn => ?_⟩, fun t ht => ?_⟩
  · obtain ⟨b, o, e, hb, hw, hc⟩ := h.2 hn
    refine ⟨b, o, e, hb, Nat.lt_of_lt_of_le hw hb2.size, fun i hi => ?_⟩
    obtain ⟨u, hu⟩ := hc i hi
    exact ⟨u, (hb2.cell (p := ⟨b, o + i, none⟩) hw).trans hu⟩
  · obtain rfl := List.mem_singleton.1 ht
    intro e
    have : w.heap.size = w.heap.size + 1 := Option.some.inj e
    omega
theorem res_box {W0 w : World} {g k b : Nat} {Q : List Thing} (S : SepC W0 w g k ([bx 27 2 b nT] ++ Q)) : Own w W0.heap.size (bx 27 2 b nT) := S.sep.own 0 _ rfl
theorem out_td {W0 w : World} {g k b : Nat} {T : Tab} (S : SepC W0 w g k ([bx 27 2 b nT] ++ T.things)) (u v : Value) :
    Sep W0 ((w.setCell ⟨b, 0, none⟩ u).setCell ⟨b, 1, none⟩ v) T.things := Sep.tail (SepC.put (P := []) (Q := T.things) S u v).sep
theorem out_tv {W0 w : World} {g k b gT : Nat} {T : Tab} (S : SepC W0 w g k ([bx 27 2 b nT] ++ tvT gT T)) (u v : Value) :
    Sep W0 ((w.setCell ⟨b, 0, none⟩ u).setCell ⟨b, 1, none⟩ v) T.things := Sep.tail (Sep.tail (SepC.put (P := []) (Q := tvT gT T) S u v).sep)
theorem td_sep {W0 w : World} {T : Tab} (hm : Sm T.D T.E) (S : Sep W0 w T.things) : Td w T := Td.of (P := []) (Q := []) hm (by simpa using S)
/-- the variable of the result, and a table of another call behind it -/
theorem res_in {w w1 : World} {T : Tab} (R : Sep (w.alloc (.cells #[.slice none 0 0, .slice none 0 0] 27)) w1 T.things) : Sep w w1 (rT w ++ T.things) :=
  Sep.join ((Sep.start w).new (below_alloc w _) (own_bx w 27 2 #[.slice none 0 0, .slice none 0 0] rfl)) R
theorem res_bx {w w1 : World} {Q : List Thing} (S : Sep w w1 (rT w ++ Q)) : Own w1 w.heap.size (bx 27 2 w.heap.size nT) := S.own 0 _ rfl
theorem res_out {w w1 : World} {Q : List Thing} (S : Sep w w1 (rT w ++ Q)) (u v : Value) : Sep w ((w1.setCell ⟨w.heap.size, 0, none⟩ u).setCell ⟨w.heap.size, 1, none⟩ v) Q := by
  have P3 := own_putAll [u, v] _ _ 0 (res_bx S)
  exact Sep.tail (S.write 0 rfl P3.2 _ P3.1)
set_option maxHeartbeats 4000000 in
theorem DrawIsTable_any (A : Option Addr) (n ca : Nat) (w : World) (h : Code w w.heap.size A n) :
    Calls Try.prog 59 #[.slice A n ca] w fun e w' => ∃ T : Tab, e = .returned (tabV T) ∧ Sm T.D T.E ∧ Sep w w' T.things := by
  have HC := Lib.hid (SepC.start2 (c := ca) h)
  clear h
  go_enter Try.func59, Try.ntmps59
  go_wp2_with fail
  refine (table_any HC.out (by decide)).mono ?_
  rintro e w1 ⟨T, k1, rfl, hm, hk1, S1⟩
  have HS1 := Lib.hid S1
  have HM := Lib.hid hm
  have D := own_box (res_box S1)
  have E := own_free (res_box S1)
  clear S1 hm HC
  go_wp2
  refine bodyPost_ret (v := tabV T) (by simp [results, Try.results59, go_sem, D, E]) rfl ?_
  exact ⟨T, rfl, HM.out, out_td HS1.out _ _⟩
set_option maxHeartbeats 4000000 in
theorem DrawMappedPages_any (A : Option Addr) (n ca : Nat) (w : World) (h : Code w w.heap.size A n) :
    Calls Try.prog 18 #[.slice A n ca] w fun e w' => ∃ T : Tab, e = .returned (tabV T) ∧ Sm T.D T.E ∧ Sep w w' T.things := by
  have HC := Lib.hid (code_up h (below_alloc w (.cells #[.slice none 0 0, .slice none 0 0] 27)) (B' := (w.alloc (.cells #[.slice none 0 0, .slice none 0 0] 27)).heap.size) (by simp))
  clear h
  go_enter Try.func18, Try.ntmps18
  go_wp2_with fail
  refine (DrawIsTable_any A n ca _ HC.out).mono ?_
  rintro e w1 ⟨T, rfl, hm, R⟩
  have S1 := res_in R
  have HS1 := Lib.hid S1
  have HM := Lib.hid hm
  have D := own_box (res_bx S1)
  have E := own_free (res_bx S1)
  clear S1 R hm HC
  go_wp2
  refine bodyPost_ret (v := tabV T) (by simp [results, Try.results18, go_sem, D, E]) rfl ?_
  exact ⟨T, rfl, HM.out, res_out HS1.out _ _⟩
set_option maxHeartbeats 4000000 in
theorem DrawMapPage_any (A : Option Addr) (n ca : Nat) (w : World) (h : Code w w.heap.size A n) :
    Calls Try.prog 6 #[.slice A n ca] w fun e w' => ∃ (T : Tab) (p f : Int) (b : Bool), e = .returned (.tuple #[tabV T, .int .i64 p, .int .i64 f, .bool b]) ∧ (-1 ≤ p ∧ p ≤ 16) ∧ (-1 ≤ f ∧ f ≤ 16) ∧ Sm T.D T.E ∧ Sep w w' T.things := by
  have HC := Lib.hid (SepC.start2 (c := ca) h)
  clear h
  go_enter Try.func6, Try.ntmps6
  go_wp2_with fail
  refine (table_any HC.out (by decide)).mono ?_
  rintro e w1 ⟨T, k1, rfl, hm, hk1, S1⟩
  have HS1 := Lib.hid S1
  have HM := Lib.hid hm
  clear S1 hm HC
  go_wp2_with fail
  refine (page_any HS1.out.cu (by omega)).mono ?_
  rintro e w2 ⟨p, hp, rfl, ⟨k2, hk2, hc2⟩, hf2⟩
  have HS2 := Lib.hid (HS1.out.step hc2 hf2)
  clear hc2 hf2
  go_wp2_with fail
  refine (page_any HS2.out.cu (by omega)).mono ?_
  rintro e w3 ⟨f, hf, rfl, ⟨k3, hk3, hc3⟩, hf3⟩
  have HS3 := Lib.hid (HS2.out.step hc3 hf3)
  clear hc3 hf3
  go_wp2_with fail
  refine (one_any 2 HS3.out.cu (by omega) (by decide) (by decide)).mono ?_
  rintro e w4 ⟨b, rfl, ⟨k4, hk4, hc4⟩, hf4⟩
  have HS4 := Lib.hid (HS3.out.step hc4 hf4)
  clear hc4 hf4
  have D := own_box (res_box HS4.out)
  have E := own_free (res_box HS4.out)
  go_wp2
  refine bodyPost_ret (v := .tuple #[tabV T, .int .i64 p, .int .i64 f, .bool b]) (by simp [results, Try.results6, go_sem, D, E]) rfl ?_
  exact ⟨T, p, f, b, rfl, hp, hf, HM.out, out_td HS4.out _ _⟩
set_option maxHeartbeats 8000000 in
theorem DrawUnmapPage_any (A : Option Addr) (n ca : Nat) (w : World) (h : Code w w.heap.size A n) :
    Calls Try.prog 14 #[.slice A n ca] w fun e w' => ∃ (T : Tab) (p : Int), e = .returned (.tuple #[tabV T, .int .i64 p]) ∧ (-1 ≤ p ∧ p ≤ 16) ∧ Sm T.D T.E ∧ Sep w w' T.things := by
  have HC := Lib.hid (SepC.start2 (c := ca) h)
  clear h
  go_enter Try.func14, Try.ntmps14
  go_wp2_with fail
  refine (table_any HC.out (by decide)).mono ?_
  rintro e w1 ⟨T, k1, rfl, hm, hk1, S1⟩
  have HS1 := Lib.hid S1
  have HM := Lib.hid hm
  clear S1 hm HC
  go_upto_region 3 with (fail)
  obtain ⟨w2, hw2⟩ : ∃ w2, w2 = w1.alloc (.cells #[.slice T.Ad T.D.length T.cd, .slice T.Al T.L.length T.cl] 27) := ⟨_, rfl⟩
  obtain ⟨gT, hgT⟩ : ∃ gT, gT = w1.heap.size := ⟨_, rfl⟩
  have HS2 : Hid (SepC w w2 (w.heap.size + 1) k1 (rT w ++ tvT gT T)) := by
    rw [hw2, hgT]
    exact (HS1.out.new (below_alloc _ _) (own_bx _ 27 2 #[.slice T.Ad T.D.length T.cd, .slice T.Al T.L.length T.cl] rfl)).tv_in
  have n1 : gT ≠ w.heap.size := by have := own_lt (res_box HS1.out); omega
  rw [← hw2, ← hgT]
  clear hw2 hgT HS1
  have HT : Hid (∀ w', Sep w w' (rT w ++ tvT gT T) → Td w' T) := fun w' S => Td.tv HM.out S
  have S0 := HS2.out.below (Below.drew (Below.refl _ _))
  have c0 := own_box (tvC_box (nil_r HS2.out))
  have dc0 : w2.cell? ⟨gT, 0, none⟩ = some (.slice T.Ad T.D.length T.cd) := c0 0
  have cc0 : w2.drew.cell? ⟨gT, 0, none⟩ = some (.slice T.Ad T.D.length T.cd) := dc0
  have dc1 : w2.cell? ⟨gT, 1, none⟩ = some (.slice T.Al T.L.length T.cl) := c0 1
  have cc1 : w2.drew.cell? ⟨gT, 1, none⟩ = some (.slice T.Al T.L.length T.cl) := dc1
  have D := own_box (res_box S0)
  have E := own_free (res_box S0)
  clear c0
  go_region_held3 (fun w' => w'.cell? ⟨gT, 0, none⟩ = some (.slice T.Ad T.D.length T.cd) ∧ w'.cell? ⟨gT, 1, none⟩ = some (.slice T.Al T.L.length T.cl)) (first | (with_reducible exact ⟨q0, q1⟩) | (with_reducible exact ⟨cc0, cc1⟩) | (refine ⟨?_, ?_⟩ <;> (repeat (first | (with_reducible exact q0) | (with_reducible exact q1) | (with_reducible exact cc0) | (with_reducible exact cc1) | (with_reducible exact dc0) | (with_reducible exact dc1) | (with_reducible refine ksetG (by omega) ?_) | (with_reducible refine kallocG ?_) | (with_reducible refine kdrewG ?_)))))
    (first | (go_at_call 57; refine (pageOf_any HT.out S0 (by omega)).mono ?_; rintro e w5 ⟨x, k5, hx, rfl, hk5, S5⟩; clear D E; have D := own_box (res_box S5); have E := own_free (res_box S5); (try clear q0 q1); have q0 : w5.cell? ⟨gT, 0, none⟩ = some (.slice T.Ad T.D.length T.cd) := own_box (tvC_box (nil_r S5)) 0; have q1 : w5.cell? ⟨gT, 1, none⟩ = some (.slice T.Al T.L.length T.cl) := own_box (tvC_box (nil_r S5)) 1))
  all_goals
    have HS6 := Lib.hid S5
    clear S0 S5
    go_wp2
    refine bodyPost_ret (v := .tuple #[tabV T, .int .i64 x]) (by simp [results, Try.results14, go_sem, D, E]) rfl ?_
    exact ⟨T, x, rfl, hx, HM.out, out_tv HS6.out _ _⟩
set_option maxHeartbeats 8000000 in
theorem DrawTranslate_any (A : Option Addr) (n ca : Nat) (w : World) (h : Code w w.heap.size A n) :
    Calls Try.prog 16 #[.slice A n ca] w fun e w' => ∃ (T : Tab) (p : Int) (b : Bool), e = .returned (.tuple #[tabV T, .int .i64 p, .bool b]) ∧ (-1 ≤ p ∧ p ≤ 16) ∧ Sm T.D T.E ∧ Sep w w' T.things := by
  have HC := Lib.hid (SepC.start2 (c := ca) h)
  clear h
  go_enter Try.func16, Try.ntmps16
  go_wp2_with fail
  refine (table_any HC.out (by decide)).mono ?_
  rintro e w1 ⟨T, k1, rfl, hm, hk1, S1⟩
  have HS1 := Lib.hid S1
  have HM := Lib.hid hm
  clear S1 hm HC
  go_upto_region 3 with (fail)
  obtain ⟨w2, hw2⟩ : ∃ w2, w2 = w1.alloc (.cells #[.slice T.Ad T.D.length T.cd, .slice T.Al T.L.length T.cl] 27) := ⟨_, rfl⟩
  obtain ⟨gT, hgT⟩ : ∃ gT, gT = w1.heap.size := ⟨_, rfl⟩
  have HS2 : Hid (SepC w w2 (w.heap.size + 1) k1 (rT w ++ tvT gT T)) := by
    rw [hw2, hgT]
    exact (HS1.out.new (below_alloc _ _) (own_bx _ 27 2 #[.slice T.Ad T.D.length T.cd, .slice T.Al T.L.length T.cl] rfl)).tv_in
  have n1 : gT ≠ w.heap.size := by have := own_lt (res_box HS1.out); omega
  rw [← hw2, ← hgT]
  clear hw2 hgT HS1
  have HT : Hid (∀ w', Sep w w' (rT w ++ tvT gT T) → Td w' T) := fun w' S => Td.tv HM.out S
  have S0 := HS2.out.below (Below.drew (Below.refl _ _))
  have c0 := own_box (tvC_box (nil_r HS2.out))
  have dc0 : w2.cell? ⟨gT, 0, none⟩ = some (.slice T.Ad T.D.length T.cd) := c0 0
  have cc0 : w2.drew.cell? ⟨gT, 0, none⟩ = some (.slice T.Ad T.D.length T.cd) := dc0
  have dc1 : w2.cell? ⟨gT, 1, none⟩ = some (.slice T.Al T.L.length T.cl) := c0 1
  have cc1 : w2.drew.cell? ⟨gT, 1, none⟩ = some (.slice T.Al T.L.length T.cl) := dc1
  clear c0
  go_region_held3 (fun w' => w'.cell? ⟨gT, 0, none⟩ = some (.slice T.Ad T.D.length T.cd) ∧ w'.cell? ⟨gT, 1, none⟩ = some (.slice T.Al T.L.length T.cl)) (first | (with_reducible exact ⟨q0, q1⟩) | (with_reducible exact ⟨cc0, cc1⟩) | (refine ⟨?_, ?_⟩ <;> (repeat (first | (with_reducible exact q0) | (with_reducible exact q1) | (with_reducible exact cc0) | (with_reducible exact cc1) | (with_reducible exact dc0) | (with_reducible exact dc1) | (with_reducible refine ksetG (by omega) ?_) | (with_reducible refine kallocG ?_) | (with_reducible refine kdrewG ?_))))) (first
    | (go_at_call 57; refine (pageOf_any HT.out S0 (by omega)).mono ?_; rintro e w5 ⟨x, k5, hx, rfl, hk5, S5⟩; (try clear q0 q1); have q0 : w5.cell? ⟨gT, 0, none⟩ = some (.slice T.Ad T.D.length T.cd) := own_box (tvC_box (nil_r S5)) 0; have q1 : w5.cell? ⟨gT, 1, none⟩ = some (.slice T.Al T.L.length T.cl) := own_box (tvC_box (nil_r S5)) 1)
    | (go_at_call 39; refine (one_any 2 S5.cu (by omega) (by decide) (by decide)).mono ?_; rintro e w6 ⟨b, rfl, ⟨k6, hk6, hc6⟩, hf6⟩; have S6 := S5.step hc6 hf6; clear hc6 hf6; have D := own_box (res_box S6); have E := own_free (res_box S6); (try clear q0 q1); have q0 : w6.cell? ⟨gT, 0, none⟩ = some (.slice T.Ad T.D.length T.cd) := own_box (tvC_box (nil_r S6)) 0; have q1 : w6.cell? ⟨gT, 1, none⟩ = some (.slice T.Al T.L.length T.cl) := own_box (tvC_box (nil_r S6)) 1))
  all_goals
    have HS6 := Lib.hid S6
    clear S0 S5 S6
    go_wp2
    refine bodyPost_ret (v := .tuple #[tabV T, .int .i64 x, .bool b]) (by simp [results, Try.results16, go_sem, D, E]) rfl ?_
    exact ⟨T, x, b, rfl, hx, HM.out, out_tv HS6.out _ _⟩
set_option maxHeartbeats 4000000 in
theorem DrawProtectPage_any (A : Option Addr) (n ca : Nat) (w : World) (h : Code w w.heap.size A n) :
    Calls Try.prog 29 #[.slice A n ca] w fun e w' => ∃ (T : Tab) (p : Int) (b : Bool), e = .returned (.tuple #[tabV T, .int .i64 p, .bool b]) ∧ (-1 ≤ p ∧ p ≤ 16) ∧ Sm T.D T.E ∧ Sep w w' T.things := by
  have HC := Lib.hid (code_up h (below_alloc w (.cells #[.slice none 0 0, .slice none 0 0] 27)) (B' := (w.alloc (.cells #[.slice none 0 0, .slice none 0 0] 27)).heap.size) (by simp))
  clear h
  go_enter Try.func29, Try.ntmps29
  go_wp2_with fail
  refine (DrawTranslate_any A n ca _ HC.out).mono ?_
  rintro e w1 ⟨T, p, b, rfl, hp, hm, R⟩
  have S1 := res_in R
  have HS1 := Lib.hid S1
  have HM := Lib.hid hm
  have D := own_box (res_bx S1)
  have E := own_free (res_bx S1)
  clear S1 R hm HC
  go_wp2
  refine bodyPost_ret (v := .tuple #[tabV T, .int .i64 p, .bool b]) (by simp [results, Try.results29, go_sem, D, E]) rfl ?_
  exact ⟨T, p, b, rfl, hp, HM.out, res_out HS1.out _ _⟩
end Go.Proofs.Ytaaocnfbbajphaa
