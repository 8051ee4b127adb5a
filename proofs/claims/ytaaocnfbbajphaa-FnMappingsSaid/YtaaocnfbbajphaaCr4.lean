/- Contract of the reader of choices: table. -/
import Derived.Test.YtaaocnfbbajphaaCt4
import Derived.Deep.RegionHeld3
import Derived.Deep.CutRange
namespace Go.Proofs.Ytaaocnfbbajphaa
open Go.RowKit
set_option linter.unusedVariables false
set_option linter.unusedSimpArgs false
attribute [local go_sem ↓] Go.wp_at_zero Go.wp_at_succ

theorem tvC_box {W0 w : World} {g k gT : Nat} {P Q : List Thing} {T : Tab} (S : SepC W0 w g k (P ++ tvT gT T ++ Q)) : Own w W0.heap.size (bx 27 2 gT [.slice T.Ad T.D.length T.cd, .slice T.Al T.L.length T.cl]) := S.sep.ownMid (M := tvT gT T) 0 rfl
theorem tvC_rd {W0 w : World} {g k gT : Nat} {P Q : List Thing} {T : Tab} (S : SepC W0 w g k (P ++ tvT gT T ++ Q)) : RdT w T := Sep.rdT (Sep.tail (Sep.mid S.sep))
theorem tvC_cap {W0 w : World} {g k gT : Nat} {P Q : List Thing} {T : Tab} (S : SepC W0 w g k (P ++ tvT gT T ++ Q)) : T.D.length ≤ T.cd ∧ T.cd ≤ maxLen := own_cap (S.sep.ownMid (M := tvT gT T) 1 rfl)

theorem wf_in {p : Int} (h1 : -1000 ≤ p) (h2 : p ≤ 1000) : (Lit.int .i64 p).wf = true := by
  show (decide (IntKind.i64.min ≤ p) && decide (p ≤ IntKind.i64.max)) = true
  rw [Bool.and_eq_true, decide_eq_true_eq, decide_eq_true_eq]
  have e1 : IntKind.i64.min = -9223372036854775808 := by decide
  have e2 : IntKind.i64.max = 9223372036854775807 := by decide
  omega
theorem SepC.newQ {W0 w w' : World} {g k : Nat} {A Q : List Thing} (S : SepC W0 w g k (A ++ Q)) (hb : Below w.heap.size w w') {t : Thing} (ho : Own w' w.heap.size t) : SepC W0 w' g k (A ++ (Q ++ [t])) := by
  have := S.new hb ho
  rwa [List.append_assoc] at this
theorem SepC.joinQ {W0 w w' : World} {g k : Nat} {A Q M : List Thing} (S : SepC W0 w g k (A ++ Q)) (R : Sep w w' M) : SepC W0 w' g k (A ++ (Q ++ M)) := by
  have := S.join R
  rwa [List.append_assoc] at this
theorem hdrew (w : World) : w.drew.heap.size = w.heap.size := rfl
theorem SepC.newB {W0 w : World} {g k : Nat} {A Q : List Thing} (S : SepC W0 w g k (A ++ Q)) : SepC W0 (w.alloc (.cells #[.slice none 0 0, .slice none 0 0] 27)) g k (A ++ (Q ++ [bx 27 2 w.heap.size [.slice none 0 0, .slice none 0 0]])) :=
  S.newQ (below_alloc _ _) (own_bx _ 27 2 #[.slice none 0 0, .slice none 0 0] rfl)
theorem qown {W0 w : World} {g k : Nat} {A : List Thing} {t : Thing} (S : SepC W0 w g k (A ++ ([] ++ [t]))) : Own w W0.heap.size t := S.sep.own A.length t (by rw [List.getElem?_append_right (Nat.le_refl _), Nat.sub_self]; rfl)
theorem qownM {W0 w : World} {g k : Nat} {A M : List Thing} {t : Thing} (S : SepC W0 w g k (A ++ (([] ++ [t]) ++ M))) : Own w W0.heap.size t := S.sep.own A.length t (by rw [List.getElem?_append_right (Nat.le_refl _), Nat.sub_self]; rfl)
theorem SepC.fin1 {W0 w : World} {g k g6 : Nat} {A : List Thing} {T6 : Tab} (S : SepC W0 w g k (A ++ (([] ++ [bx 27 2 g6 [.slice none 0 0, .slice none 0 0]]) ++ T6.things))) :
    SepC W0 ((w.setCell ⟨g6, 0, none⟩ (.slice T6.Ad T6.D.length T6.cd)).setCell ⟨g6, 1, none⟩ (.slice T6.Al T6.L.length T6.cl)) g k (A ++ tvT g6 T6) :=
  SepC.put (Q := T6.things) S _ _
theorem SepC.fin2 {W0 w : World} {g k : Nat} {A : List Thing} {T6 : Tab} (S : SepC W0 w g k (A ++ ([] ++ T6.things))) :
    SepC W0 (w.alloc (.cells #[.slice T6.Ad T6.D.length T6.cd, .slice T6.Al T6.L.length T6.cl] 27)) g k (A ++ tvT w.heap.size T6) :=
  SepC.tv_in ((show SepC W0 w g k (A ++ T6.things) from S).new (below_alloc _ _) (own_bx _ 27 2 #[.slice T6.Ad T6.D.length T6.cd, .slice T6.Al T6.L.length T6.cl] rfl))
theorem SepC.out_ {W0 w : World} {g k gR gT : Nat} {P : List Thing} {T : Tab} {a0 a1 : Value} (S : SepC W0 w g k (P ++ [bx 27 2 gR [a0, a1]] ++ tvT gT T)) (u v : Value) :
    SepC W0 ((w.setCell ⟨gR, 0, none⟩ u).setCell ⟨gR, 1, none⟩ v) g k (P ++ T.things) := by
  have S1 : SepC W0 w g k (P ++ bx 27 2 gR [a0, a1] :: tvT gT T) := by rw [List.append_assoc] at S; exact S
  have S2 := S1.put u v
  have S3 : SepC W0 ((w.setCell ⟨gR, 0, none⟩ u).setCell ⟨gR, 1, none⟩ v) g k (P ++ [bx 27 2 gR [u, v], bx 27 2 gT [.slice T.Ad T.D.length T.cd, .slice T.Al T.L.length T.cl]] ++ T.things) := by rw [List.append_assoc]; exact S2
  exact S3.dropMid
/-- what the drawn MapPage leaves -/
theorem map_small (T : Tab) (p f : Int) (wb : Bool) (w : World) (hr : RdT w T) (B : Bd T) (hcap : T.D.length ≤ T.cd ∧ T.cd ≤ maxLen) (h1 : (Lit.int .i64 p).wf = true) (h2 : (Lit.int .i64 f).wf = true) :
    Calls Try.prog 8 #[tabV T, .int .i64 p, .int .i64 f, .bool wb] w fun e w' => ∃ (T' : Tab) (r : Bool), e = .returned (.tuple #[.agg #[.slice T'.Ad T'.D.length T'.cd, .slice T'.Al T'.L.length T'.cl], .bool r]) ∧ Hid (r = true → Sn T'.D T'.E) ∧ Hid (Sep w w' T'.things) :=
  (s_MapPage_any T p f wb w hr B hcap _ _ rfl rfl h1 h2).mono fun e w' ⟨T', e1, hD, hE, _, R⟩ => ⟨T', _, e1, fun h => Sn.eq hD hE h fun y hy => mpR_sn hy, R⟩
theorem unmap_small (T : Tab) (p : Int) (w : World) (hr : RdT w T) (B : Bd T) (hcap : T.D.length ≤ T.cd ∧ T.cd ≤ maxLen) :
    Calls Try.prog 15 #[tabV T, .int .i64 p] w fun e w' => ∃ (T' : Tab) (r : Bool), e = .returned (.tuple #[.agg #[.slice T'.Ad T'.D.length T'.cd, .slice T'.Al T'.L.length T'.cl], .bool r]) ∧ Hid (r = true → Sn T'.D T'.E) ∧ Hid (Sep w w' T'.things) :=
  (s_UnmapPage_any T p w hr B hcap _ _ rfl rfl).mono fun e w' ⟨T', e1, hD, hE, _, R⟩ => ⟨T', _, e1, fun h => Sn.eq hD hE h fun y hy => uR_sn hy, R⟩
theorem nil_r {W0 w : World} {g k : Nat} {L : List Thing} (S : SepC W0 w g k L) : SepC W0 w g k (L ++ []) := by rw [List.append_nil]; exact S

theorem sc_letter {W0 w : World} {g k gT : Nat} {P : List Thing} {T T' : Tab} (h : Hid (SepC W0 w g k (P ++ tvT gT T))) (e : T' = T) : Hid (SepC W0 w g k (P ++ tvT gT T')) := by rw [e]; exact h
theorem tv_ne {W0 w : World} {P : List Thing} {gT : Nat} {T : Tab} (S : Sep W0 w (P ++ tvT gT T)) (i : Nat) {t : Thing} (h : T.things[i]? = some t) {b : Nat} (hb : blk t.A = some b) : gT ≠ b := by
  rcases S.apart P.length (P.length + (i + 1)) (bx 27 2 gT [.slice T.Ad T.D.length T.cd, .slice T.Al T.L.length T.cl]) t (by omega) (by rw [List.getElem?_append_right (Nat.le_refl _), Nat.sub_self]; rfl) (by rw [List.getElem?_append_right (by omega), Nat.add_sub_cancel_left]; exact h) with h1 | h1
  · cases h1
  · rw [hb] at h1; exact fun e => h1 (by rw [e]; rfl)
theorem tv_ne2 {W0 w : World} {P : List Thing} {gT : Nat} {T : Tab} (S : Sep W0 w (P ++ tvT gT T)) {t : Thing} {i : Nat} (h : (T.L.map tL)[i]? = some t) {bl b : Nat} (ha : blk T.Al = some bl) (hb : blk t.A = some b) : bl ≠ b := by
  rcases S.apart (P.length + 2) (P.length + (i + 3)) (tR T.Al T.L.length T.cl T.L) t (by omega) (by rw [List.getElem?_append_right (by omega), Nat.add_sub_cancel_left]; rfl) (by rw [List.getElem?_append_right (by omega), Nat.add_sub_cancel_left]; exact h) with h1 | h1
  · exact absurd (ha.symm.trans h1) (by simp)
  · exact fun e => h1 (by rw [hb, ← e]; exact ha)
theorem SepC.rowCell {W0 w : World} {g k gT j : Nat} {P : List Thing} {T : Tab} {l : Leaf} (S : SepC W0 w g k (P ++ tvT gT T)) (hl : T.L[j]? = some l) {bl : Nat} (hA : T.Al = some ⟨bl, 0, none⟩) : w.cell? ⟨bl, j, none⟩ = some (.slice l.A l.es.length l.c) := by
  obtain ⟨b, o, h1, _, h2⟩ := (tv_rd S.sep).rowAt hl
  rw [hA] at h1
  obtain ⟨rfl, rfl⟩ : bl = b ∧ 0 = o := by simpa using h1
  rwa [Nat.zero_add] at h2

set_option maxRecDepth 100000 in
set_option maxHeartbeats 8000000 in
theorem table_any {W0 w : World} {g k : Nat} {P : List Thing} (S : SepC W0 w g k P) (hk : k ≤ 700000) :
    Calls Try.prog 37 #[.pointer (some ⟨g, 0, none⟩)] w fun e w' => ∃ (T : Tab) (k' : Nat), e = .returned (tabV T) ∧ Sm T.D T.E ∧ k' ≤ k + 200 ∧ SepC W0 w' g k' (P ++ T.things) := by
  have S1 := S.new (below_alloc w _) (own_bx w 27 2 #[.slice none 0 0, .slice none 0 0] rfl)
  have HS1 := Lib.hid S1
  clear S S1
  go_enter Try.func37, Try.ntmps37
  go_wp2_with fail
  refine (l4New_any _).mono ?_
  rintro e w1 ⟨T0, rfl, hD0, hE0, R⟩
  have S2 := (HS1.out.join R).new (below_alloc _ _) (own_bx _ 27 2 #[.slice T0.Ad T0.D.length T0.cd, .slice T0.Al T0.L.length T0.cl] rfl)
  have S3 := SepC.tv_in (P := P ++ [bx 27 2 w.heap.size [.slice none 0 0, .slice none 0 0]]) S2
  have HM0 := Lib.hid (sn_new hD0 hE0)
  have HS3 := Lib.hid S3
  clear S2 S3 R hD0 hE0
  go_wp2_with fail
  refine (pick_any 10 HS3.out.cu (by omega) (by decide) (by decide)).mono ?_
  rintro e w2 ⟨n, ⟨hn0, hn1, _⟩, rfl, ⟨k1, hk1, hc1⟩, hf1⟩
  have hn2 := hn1 (by decide)
  have HS4 := Lib.hid (HS3.out.step hc1 hf1)
  clear hc1 hf1 hn1
  obtain ⟨n, rfl⟩ := Int.eq_ofNat_of_zero_le hn0
  go_wp2
  go_loopw [4] (fun i wo => ∃ (m k2 : Nat) (T : Tab), m ≤ 9 ∧ i = .int .i64 m ∧ k2 + 10 * m ≤ k + 100 ∧ Hid (Sn T.D T.E) ∧ Hid (SepC W0 wo g k2 (P ++ [bx 27 2 w.heap.size [.slice none 0 0, .slice none 0 0]] ++ tvT w1.heap.size T)))
    (fun i _ => (intOf i).toNat)
  case atStart => exact ⟨n, k1, T0, by omega, rfl, by omega, HM0, HS4⟩
  case round =>
    obtain ⟨m, k2, T, hm, rfl, hk2, HM, HS⟩ := hrel
    by_cases hlt : 0 < m
    · have h0 : (0 : Int) < (m : Int) := by omega
      go_wp2_with fail
      refine (pick_any 16 HS.out.cu (by omega) (by decide) (by decide)).mono ?_
      rintro e w3 ⟨p, ⟨hp0, hp1, _⟩, rfl, ⟨k3, hk3, hc3⟩, hf3⟩
      have hp2 := hp1 (by decide)
      have HS5 := Lib.hid (HS.out.step hc3 hf3)
      clear hc3 hf3 hp1
      obtain ⟨p, rfl⟩ := Int.eq_ofNat_of_zero_le hp0
      have wfp : (Lit.int .i64 (p : Int)).wf = true := wf_in (by omega) (by omega)
      have C5 := own_box (tvC_box (nil_r HS5.out))
      have Z5 := own_lt (tvC_box (nil_r HS5.out))
      go_upto_region 6 with (fail)
      go_cut [6, 7] from 14 to 43 (fun x y wx => ∃ (g6 : Nat) (T6 : Tab) (k6 : Nat) (b : Bool), x = .pointer (some ⟨g6, 0, none⟩) ∧ y = .bool b ∧ k6 ≤ k3 + 4 ∧ Hid (b = true → Sn T6.D T6.E) ∧ Hid (SepC W0 wx g k6 (P ++ [bx 27 2 w.heap.size [.slice none 0 0, .slice none 0 0]] ++ tvT w1.heap.size T ++ tvT g6 T6)))
      case first =>
        have S5 := nil_r (HS5.out.below (Below.drew (Below.refl _ _)))
        go_region_with (first
          | (go_at_call 76; (first | (have S5a := S5; refine (pick_any 16 S5a.cu (by omega) (by decide) (by decide)).mono ?_) | (have S5a := S5.newB; refine (pick_any 16 S5a.cu (by omega) (by decide) (by decide)).mono ?_)); rintro e w4 ⟨f, ⟨hf0, hf1, _⟩, rfl, ⟨k4, hk4, hc4⟩, hfr4⟩; have hf2 := hf1 (by decide); have S6 := S5a.step hc4 hfr4; clear hf1 hc4 hfr4; have C6 := own_box (tvC_box S6); have Z6 := own_lt (tvC_box S6); (first | (have A6 := own_box (qown S6); have F6 := own_free (qown S6); have Y6 := own_lt (qown S6); (try simp only [hdrew] at A6 F6 Y6)) | skip))
          | (go_at_call 39; (first | (have S6a := S6; refine (one_any 2 S6a.cu (by omega) (by decide) (by decide)).mono ?_) | (have S6a := S6.newB; refine (one_any 2 S6a.cu (by omega) (by decide) (by decide)).mono ?_)); rintro e w5 ⟨wb, rfl, ⟨k5, hk5, hc5⟩, hfr5⟩; have S7 := S6a.step hc5 hfr5; clear hc5 hfr5; have C7 := own_box (tvC_box S7); have Z7 := own_lt (tvC_box S7); (first | (have A7 := own_box (qown S7); have F7 := own_free (qown S7); have Y7 := own_lt (qown S7); (try simp only [hdrew] at A7 F7 Y7)) | skip))
          | (go_at_call 8; (first | (have S7a := S7; refine (map_small T p f wb _ (tvC_rd S7a) HM.out.sm.bd (tvC_cap S7a) wfp (wf_in (by omega) (by omega))).mono ?_) | (have S7a := S7.newB; refine (map_small T p f wb _ (tvC_rd S7a) HM.out.sm.bd (tvC_cap S7a) wfp (wf_in (by omega) (by omega))).mono ?_)); rintro e w6 ⟨T6, r6, rfl, HSM, R6⟩; have S8 := S7a.joinQ R6.out; (first | (have A8 := own_box (qownM S8); have F8 := own_free (qownM S8); have Y8 := own_lt (qownM S8); (try simp only [hdrew] at A8 F8 Y8)) | skip); have HS8 := Lib.hid S8; clear C6 C7 R6 S5 S5a S6 S6a S7 S7a S8))
        all_goals
          go_wp2_with fail
          go_meet
          refine ⟨_, T6, k5, r6, rfl, rfl, by omega, HSM, ?_⟩
          first | exact HS8.out.fin2 | exact HS8.out.fin1
      case rest =>
        obtain ⟨g6, T6, k6, r6, rfl, rfl, hk6, HSM, HS6⟩ := hcut
        have D6 := own_box (tvC_box (Q := []) (P := P ++ [bx 27 2 w.heap.size [.slice none 0 0, .slice none 0 0]] ++ tvT w1.heap.size T) (nil_r HS6.out))
        have E6 := own_box (tvC_box HS6.out)
        have G6 := own_free (tvC_box HS6.out)
        clear C5 Z5
        cases r6
        · go_wp2_with fail
          refine (unmap_small T p _ (tvC_rd HS6.out) HM.out.sm.bd (tvC_cap HS6.out)).mono ?_
          rintro e w8 ⟨T8, r8, rfl, HSM8, R8⟩
          have S8 := (SepC.dropMid (Q := []) (M := tvT g6 T6) (nil_r HS6.out))
          rw [List.append_nil] at S8
          have HS8 := Lib.hid ((S8.join R8.out).new (below_alloc _ _) (own_bx _ 27 2 #[.slice T8.Ad T8.D.length T8.cd, .slice T8.Al T8.L.length T8.cl] rfl)).tv_in
          clear S8 R8 D6 E6 G6
          cases r8
          · go_wp2
            go_roundw
            case rel =>
              refine ⟨m - 1, k6, T, by omega, ?_, by omega, HM, HS8.out.take⟩
              rw [Int.natCast_sub (by omega)]; rfl
            case measure => simp [intOf]; omega
          · go_wp2_with fail
            refine (one_any 2 HS8.out.cu (by omega) (by decide) (by decide)).mono ?_
            rintro e w9 ⟨r9, rfl, ⟨k9, hk9, hc9⟩, hf9⟩
            have HS9 := Lib.hid (HS8.out.step hc9 hf9)
            clear hc9 hf9
            have E8 := own_box (tvC_box (Q := []) (nil_r HS9.out))
            have D8 := own_box (tvC_box HS9.out)
            have G8 := own_free (tvC_box HS9.out)
            cases r9
            · go_wp2
              go_roundw
              case rel =>
                refine ⟨m - 1, k9, T, by omega, ?_, by omega, HM, HS9.out.take⟩
                rw [Int.natCast_sub (by omega)]; rfl
              case measure => simp [intOf]; omega
            · go_wp2
              go_roundw
              case rel =>
                refine ⟨m - 1, k9, T8, by omega, ?_, by omega, (by first | exact HSM8.out rfl | exact HSM8.out trivial), HS9.out.move⟩
                rw [Int.natCast_sub (by omega)]; rfl
              case measure => simp [intOf]; omega
        · go_wp2
          go_roundw
          case rel =>
            refine ⟨m - 1, k6, T6, by omega, ?_, by omega, HSM.out rfl, HS6.out.move⟩
            rw [Int.natCast_sub (by omega)]; rfl
          case measure => simp [intOf]; omega
    · obtain rfl : m = 0 := by omega
      go_wp2_with fail
      refine (pick_any 24 HS.out.cu (by omega) (by decide) (by decide)).mono ?_
      rintro e w3 ⟨x, ⟨hx0, hx1, _⟩, rfl, ⟨k3, hk3, hc3⟩, hf3⟩
      have hx2 := hx1 (by decide)
      have HS5 := Lib.hid (HS.out.step hc3 hf3)
      clear hc3 hf3 hx1
      have C5 := own_box (tvC_box (nil_r HS5.out))
      have Z5 := own_lt (tvC_box (nil_r HS5.out))
      have R5 := HS5.out.sep.ownMid (P := P) (M := [bx 27 2 w.heap.size [.slice none 0 0, .slice none 0 0]]) (i := 0) (t := _) rfl
      by_cases h4 : 3 < x
      · have x0 : (x == 0) = false := by simp; omega
        have x1 : (x == 1) = false := by simp; omega
        have x2 : (x == 2) = false := by simp; omega
        have x3 : (x == 3) = false := by simp; omega
        have R6 := own_box R5
        have R7 := own_free R5
        go_wp2
        refine bodyPost_ret (v := tabV T) (by simp [results, Try.results37, go_sem, R6, tabV]) rfl ?_
        exact ⟨T, k3, rfl, HM.out.sm, by omega, HS5.out.out_ _ _⟩
      · by_cases h0 : x = 0
        · subst h0
          obtain ⟨Ad, cd, D, Al, cl, L⟩ := T
          dsimp only at C5
          have hd4 : 4 ≤ D.length := by have : D.length = 4 := HM.out.d4; omega
          have hO := (nil_r HS5.out).sep.ownMid (M := tvT w1.heap.size ⟨Ad, cd, D, Al, cl, L⟩) 1 (t := ti Ad D.length cd D) rfl
          obtain ⟨b, rfl, _, _⟩ := own_someS hO (by show 0 < D.length; omega)
          have hne : w1.heap.size ≠ b := tv_ne HS5.out.sep 0 rfl rfl
          clear hO
          go_upto_region 14 with (fail)
          have S0 := HS5.out.below (Below.drew (Below.refl w3.heap.size w3))
          have S1 := (HS5.out.below (below_alloc w3 (.cells #[.int .i64 (-2), .int .i64 0, .int .i64 4, .int .i64 (-1)] 3))).below (Below.drew (Below.refl _ _))
          have XL1 := (Box.new w3 3 #[.int .i64 (-2), .int .i64 0, .int .i64 4, .int .i64 (-1)]).drew
          have hcl3 := HS5.out.cu.lt
          have dc0 : w3.cell? ⟨w1.heap.size, 0, none⟩ = some (.slice (some ⟨b, 0, none⟩) D.length cd) := own_box (tvC_box (nil_r HS5.out)) 0
          have cc0 : w3.drew.cell? ⟨w1.heap.size, 0, none⟩ = some (.slice (some ⟨b, 0, none⟩) D.length cd) := dc0
          clear C5 R5
          go_region_held3 (fun w' => w'.cell? ⟨w1.heap.size, 0, none⟩ = some (.slice (some ⟨b, 0, none⟩) D.length cd)) (first | (with_reducible exact q0) | (with_reducible exact cc0) | (repeat (first | (with_reducible exact q0) | (with_reducible exact cc0) | (with_reducible exact dc0) | (with_reducible refine ksetG (by omega) ?_) | (with_reducible refine kallocG ?_) | (with_reducible refine kdrewG ?_)))) (first
            | (go_at_call 76; (first | (have Sa := S0; refine (pick_any 4 Sa.cu (by omega) (by decide) (by decide)).mono ?_) | (have Sa := S1; refine (pick_any 4 Sa.cu (by omega) (by decide) (by decide)).mono ?_)); rintro e w5 ⟨x, ⟨hx0, hx1, _⟩, rfl, ⟨k5, hk5, hc5⟩, hf5⟩; obtain ⟨p, rfl⟩ := Int.eq_ofNat_of_zero_le hx0; have hp := hx1 (by decide); have hp4 : (p : Int) < (D.length : Int) := (by omega); have S5 := Sa.step hc5 hf5; (first | (have XL := XL1.farC hf5 (by omega)) | skip); clear hf5 hc5 hx1; (try clear q0); have q0 : w5.cell? ⟨w1.heap.size, 0, none⟩ = some (.slice (some ⟨b, 0, none⟩) D.length cd) := own_box (tvC_box (nil_r S5)) 0)
            | (go_at_call 74; (first | (have Sb := S5; refine (among_box (-2) 4 4 _ _ _ XL Sb.cu (by omega) (by omega) (by omega) (by omega) (by decide) _ (by decide)).mono ?_) | (have Sb := S5.below (below_alloc w5 (.cells #[.int .i64 (-2), .int .i64 0, .int .i64 4, .int .i64 (-1)] 3)); have XL := Box.new w5 3 #[.int .i64 (-2), .int .i64 0, .int .i64 4, .int .i64 (-1)]; have hcl5 := S5.cu.lt; refine (among_box (-2) 4 4 _ _ _ XL Sb.cu (by omega) (by omega) (by omega) (by omega) (by decide) _ (by decide)).mono ?_)); rintro e w6 ⟨q, hq, rfl, ⟨k6, hk6, hc6⟩, hf6⟩; have S6 := Sb.step hc6 hf6; clear hf6 hc6; (try clear q0); have q0 : w6.cell? ⟨w1.heap.size, 0, none⟩ = some (.slice (some ⟨b, 0, none⟩) D.length cd) := own_box (tvC_box (nil_r S6)) 0; obtain ⟨⟨y7, hy7⟩, hfz7, S7⟩ := SepC.dirPut (P := P ++ [bx 27 2 w.heap.size [.slice none 0 0, .slice none 0 0]]) S6 (p := p) (by omega) q))
          all_goals
            have HS7 := Lib.hid S7
            have HM7 := Lib.hid (HM.out.dirs (D' := D.set p q) (by simp))
            clear S0 S1 S5 Sa Sb S6 S7 q0 cc0 dc0 Z5 hy7 hfz7
            generalize w6.setCell ⟨b, p, none⟩ (.int .i64 q) = wz at HS7 ⊢
            obtain ⟨T', hT'⟩ : ∃ T' : Tab, T' = ⟨some ⟨b, 0, none⟩, cd, D.set p q, Al, cl, L⟩ := ⟨_, rfl⟩
            have HS8 := sc_letter HS7 hT'
            have HM8 : Hid (Sm T'.D T'.E) := by rw [hT']; exact HM7
            clear HS7 HM7 hT'
            have C5 := own_box (tvC_box (nil_r HS8.out))
            have Z5 := own_lt (tvC_box (nil_r HS8.out))
            have R5 := HS8.out.sep.ownMid (P := P) (M := [bx 27 2 w.heap.size [.slice none 0 0, .slice none 0 0]]) (i := 0) (t := _) rfl
            have R6 := own_box R5
            have R7 := own_free R5
            go_wp2
            refine bodyPost_ret (v := tabV T') (by simp [results, Try.results37, go_sem, R6, tabV]) rfl ?_
            first | exact ⟨T', k6, rfl, HM8.out, by omega, HS8.out.out_ _ _⟩ | exact ⟨T', rfl, HM8.out, k6, by omega, HS8.out.out_ _ _⟩
        by_cases h1 : x = 1
        · subst h1
          obtain ⟨i0, hi, hz0, hz1, hz2⟩ := info_parts Try.info3
          have hOw := (nil_r HS5.out).sep.ownMid (M := tvT w1.heap.size T) 1 (t := ti T.Ad T.D.length T.cd T.D) rfl
          have hd5 : T.D.length ≤ 4 := by have := HM.out.d4; omega
          have hsz := HS5.out.sep.bel.size
          go_upto_region 23 with (at_builtin; go_loud (refine wpList_app _ rfl _ _ 24 rfl W0.heap.size 3 i0 (.int .i64 0) 1 8 Try.underlying24 hi hz0 hz1 hz2 rfl (by decide) _ _ _ _ rfl (World.ownsRow.alloc hOw _) _ _ _ _ rfl (Rd.one _ _ _) (by simp [Value.oneCell']) (by unfold maxLen; omega) (by omega) (by simp; omega) ?_; intro A' c' w4 hown hgrow hat; obtain ⟨C6, F6, S6⟩ := SepC.dirApp (HS5.out.below (below_alloc _ _)) hgrow hat (own_I hown); have HS6 := Lib.hid S6; have Z6 := (show w1.heap.size < w4.heap.size by have := own_lt (tvC_box (nil_r S6)); simpa using this); clear hown hgrow hat S6))
          obtain ⟨w5, hw5⟩ : ∃ w5, w5 = w4.setCell ⟨w1.heap.size, 0, none⟩ (.slice A' (T.D.length + 1) c') := ⟨_, rfl⟩
          rw [← hw5]
          have HS7 : Hid (SepC W0 w5 g k3 (P ++ [bx 27 2 w.heap.size [.slice none 0 0, .slice none 0 0]] ++ tvT w1.heap.size ⟨A', c', T.D ++ [-1], T.Al, T.cl, T.L⟩)) := by rw [hw5]; exact HS6.out
          have HM7 : Hid (Sm (T.D ++ [-1]) T.E) := HM.out.dir _
          clear C5 Z5 R5 C6 F6 Z6 HS6 hw5
          obtain ⟨T', hT'⟩ : ∃ T' : Tab, T' = ⟨A', c', T.D ++ [-1], T.Al, T.cl, T.L⟩ := ⟨_, rfl⟩
          have HS8 := sc_letter HS7 hT'
          have HM8 : Hid (Sm T'.D T'.E) := by rw [hT']; exact HM7
          clear HS7 HM7 hT'
          have C5 := own_box (tvC_box (nil_r HS8.out))
          have Z5 := own_lt (tvC_box (nil_r HS8.out))
          have R5 := HS8.out.sep.ownMid (P := P) (M := [bx 27 2 w.heap.size [.slice none 0 0, .slice none 0 0]]) (i := 0) (t := _) rfl
          have R6 := own_box R5
          have R7 := own_free R5
          go_wp2
          refine bodyPost_ret (v := tabV T') (by simp [results, Try.results37, go_sem, R6, tabV]) rfl ?_
          first | exact ⟨T', k3, rfl, HM8.out, by omega, HS8.out.out_ _ _⟩ | exact ⟨T', rfl, HM8.out, k3, by omega, HS8.out.out_ _ _⟩
        by_cases h2 : x = 2
        · subst h2
          obtain ⟨Ad, cd, D, Al, cl, L⟩ := T
          dsimp only at C5
          obtain ⟨nl, hnl⟩ : ∃ nl, nl = L.length := ⟨_, rfl⟩
          rw [← hnl] at C5
          by_cases hL : nl = 0
          · have hL0 : decide (0 < nl) = false := by rw [decide_eq_false_iff_not]; omega
            have HNL := Lib.hid hnl
            clear hL hnl
            have R6 := own_box R5
            have R7 := own_free R5
            go_wp2
            refine bodyPost_ret (v := .agg #[.slice Ad D.length cd, .slice Al nl cl]) (by simp [results, Try.results37, go_sem, R6, tabV]) rfl ?_
            have e : Ending.returned (.agg #[.slice Ad D.length cd, .slice Al nl cl]) = Ending.returned (tabV ⟨Ad, cd, D, Al, cl, L⟩) := by rw [HNL.out]
            have S9 := HS5.out.out_ (.slice Ad D.length cd) (.slice Al L.length cl)
            rw [← HNL.out] at S9
            first | exact ⟨⟨Ad, cd, D, Al, cl, L⟩, k3, e, HM.out.sm, by omega, S9⟩ | exact ⟨⟨Ad, cd, D, Al, cl, L⟩, e, HM.out.sm, k3, by omega, S9⟩
          obtain ⟨l, hl⟩ : ∃ l, L[0]? = some l := ⟨_, List.getElem?_eq_getElem (by omega)⟩
          obtain ⟨ml, rfl⟩ : ∃ ml, nl = ml + 1 := ⟨nl - 1, by omega⟩
          have hL1 : 0 < L.length := by omega
          have hL2 : (0 : Int) < (ml : Int) + 1 := by omega
          have HNL := Lib.hid hnl
          obtain ⟨lA, lc, es⟩ := l
          have HE4 : Hid (es.length = 4) := HM.out.l4 es (by simp only [Tab.E]; exact List.mem_map_of_mem (List.mem_of_getElem? hl))
          have he4 : 4 ≤ es.length := by have := HE4.out; omega
          have hO := (nil_r HS5.out).sep.ownMid (M := tvT w1.heap.size ⟨Ad, cd, D, Al, cl, L⟩) 2 (t := tR Al L.length cl L) rfl
          obtain ⟨bl, rfl, _, _⟩ := own_someS hO hL1
          have hO2 := (nil_r HS5.out).sep.ownMid (M := tvT w1.heap.size ⟨Ad, cd, D, some ⟨bl, 0, none⟩, cl, L⟩) 3 (t := tL ⟨lA, lc, es⟩) (by simp [tvT, Tab.things, hl])
          obtain ⟨b2, rfl, _, _⟩ := own_someS hO2 (by show 0 < es.length; omega)
          have hne : w1.heap.size ≠ b2 := tv_ne HS5.out.sep 2 (t := tL ⟨some ⟨b2, 0, none⟩, lc, es⟩) (by simp [Tab.things, hl]) rfl
          have hne2 : bl ≠ b2 := tv_ne2 HS5.out.sep (t := tL ⟨some ⟨b2, 0, none⟩, lc, es⟩) (i := 0) (by simp [hl]) rfl rfl
          clear hO hO2 hL1 hnl hL
          go_upto_region 19 with (fail)
          have S0 := HS5.out.below (Below.drew (Below.refl w3.heap.size w3))
          have S1 := (HS5.out.below (below_alloc w3 (.cells #[.int .i64 (-2), .int .i64 (-1), .int .i64 15, .int .i64 16] 3))).below (Below.drew (Below.refl _ _))
          have XL1 := (Box.new w3 3 #[.int .i64 (-2), .int .i64 (-1), .int .i64 15, .int .i64 16]).drew
          have hcl3 := HS5.out.cu.lt
          have dc0 : w3.cell? ⟨w1.heap.size, 1, none⟩ = some (.slice (some ⟨bl, 0, none⟩) (ml + 1) cl) := (by rw [HNL.out]; exact own_box (tvC_box (nil_r HS5.out)) 1)
          have cc0 : w3.drew.cell? ⟨w1.heap.size, 1, none⟩ = some (.slice (some ⟨bl, 0, none⟩) (ml + 1) cl) := dc0
          have dc1 : w3.cell? ⟨bl, 0, none⟩ = some (.slice (some ⟨b2, 0, none⟩) es.length lc) := SepC.rowCell (P := P ++ [bx 27 2 w.heap.size [.slice none 0 0, .slice none 0 0]]) HS5.out hl rfl
          have cc1 : w3.drew.cell? ⟨bl, 0, none⟩ = some (.slice (some ⟨b2, 0, none⟩) es.length lc) := dc1
          clear C5 R5
          go_region_held3 (fun w' => w'.cell? ⟨w1.heap.size, 1, none⟩ = some (.slice (some ⟨bl, 0, none⟩) (ml + 1) cl) ∧ w'.cell? ⟨bl, 0, none⟩ = some (.slice (some ⟨b2, 0, none⟩) es.length lc)) (first | (with_reducible exact ⟨q0, q1⟩) | (with_reducible exact ⟨cc0, cc1⟩) | (refine ⟨?_, ?_⟩ <;> (repeat (first | (with_reducible exact q0) | (with_reducible exact q1) | (with_reducible exact cc0) | (with_reducible exact cc1) | (with_reducible exact dc0) | (with_reducible exact dc1) | (with_reducible refine ksetG (by omega) ?_) | (with_reducible refine kallocG ?_) | (with_reducible refine kdrewG ?_))))) (first
            | (go_at_call 76; (first | (have Sa := S0; refine (pick_any 4 Sa.cu (by omega) (by decide) (by decide)).mono ?_) | (have Sa := S1; refine (pick_any 4 Sa.cu (by omega) (by decide) (by decide)).mono ?_)); rintro e w5 ⟨x, ⟨hx0, hx1, _⟩, rfl, ⟨k5, hk5, hc5⟩, hf5⟩; obtain ⟨p, rfl⟩ := Int.eq_ofNat_of_zero_le hx0; have hp := hx1 (by decide); have hp4 : (p : Int) < (es.length : Int) := (by omega); have S5 := Sa.step hc5 hf5; (first | (have XL := XL1.farC hf5 (by omega)) | skip); clear hf5 hc5 hx1; (try clear q0 q1); have q0 : w5.cell? ⟨w1.heap.size, 1, none⟩ = some (.slice (some ⟨bl, 0, none⟩) (ml + 1) cl) := (by rw [HNL.out]; exact own_box (tvC_box (nil_r S5)) 1); have q1 : w5.cell? ⟨bl, 0, none⟩ = some (.slice (some ⟨b2, 0, none⟩) es.length lc) := SepC.rowCell (P := P ++ [bx 27 2 w.heap.size [.slice none 0 0, .slice none 0 0]]) S5 hl rfl)
            | (go_at_call 74; (first | (have Sb := S5; refine (among_box (-2) 16 4 _ _ _ XL Sb.cu (by omega) (by omega) (by omega) (by omega) (by decide) _ (by decide)).mono ?_) | (have Sb := S5.below (below_alloc w5 (.cells #[.int .i64 (-2), .int .i64 (-1), .int .i64 15, .int .i64 16] 3)); have XL := Box.new w5 3 #[.int .i64 (-2), .int .i64 (-1), .int .i64 15, .int .i64 16]; have hcl5 := S5.cu.lt; refine (among_box (-2) 16 4 _ _ _ XL Sb.cu (by omega) (by omega) (by omega) (by omega) (by decide) _ (by decide)).mono ?_)); rintro e w6 ⟨q, hq, rfl, ⟨k6, hk6, hc6⟩, hf6⟩; have S6 := Sb.step hc6 hf6; clear hf6 hc6; (try clear q0 q1); have q0 : w6.cell? ⟨w1.heap.size, 1, none⟩ = some (.slice (some ⟨bl, 0, none⟩) (ml + 1) cl) := (by rw [HNL.out]; exact own_box (tvC_box (nil_r S6)) 1); have q1 : w6.cell? ⟨bl, 0, none⟩ = some (.slice (some ⟨b2, 0, none⟩) es.length lc) := SepC.rowCell (P := P ++ [bx 27 2 w.heap.size [.slice none 0 0, .slice none 0 0]]) S6 hl rfl)
            | (go_at_call 39; refine (one_any 2 S6.cu (by omega) (by decide) (by decide)).mono ?_; rintro e w7 ⟨r, rfl, ⟨k7, hk7, hc7⟩, hf7⟩; have S7 := S6.step hc7 hf7; clear hf7 hc7; (try clear q0 q1); have q0 : w7.cell? ⟨w1.heap.size, 1, none⟩ = some (.slice (some ⟨bl, 0, none⟩) (ml + 1) cl) := (by rw [HNL.out]; exact own_box (tvC_box (nil_r S7)) 1); have q1 : w7.cell? ⟨bl, 0, none⟩ = some (.slice (some ⟨b2, 0, none⟩) es.length lc) := SepC.rowCell (P := P ++ [bx 27 2 w.heap.size [.slice none 0 0, .slice none 0 0]]) S7 hl rfl; obtain ⟨⟨y7, z7, hy7, hz7⟩, hfz7, S8⟩ := SepC.leafPut (P := P ++ [bx 27 2 w.heap.size [.slice none 0 0, .slice none 0 0]]) S7 (r := p) hl HE4.out (by omega) ⟨q, r⟩))
          all_goals
            have HS7 := Lib.hid S8
            clear S0 S1 S5 Sa Sb S6 S7 S8 q0 cc0 dc0 q1 cc1 dc1 Z5 hy7 hz7 hfz7
            generalize (w7.setCell ⟨b2, p * 2, none⟩ (.int .i64 q)).setCell ⟨b2, p * 2 + 1, none⟩ (.bool r) = wz at HS7 ⊢
            have HM7 : Hid (Sm D (⟨Ad, cd, D, some ⟨bl, 0, none⟩, cl, L.set 0 ⟨some ⟨b2, 0, none⟩, lc, es.set p ⟨q, r⟩⟩⟩ : Tab).E) := by
              have h1 := HM.out.leaf 0 (es.set p ⟨q, r⟩) (by rw [List.length_set]; exact HE4.out)
              rw [← tv_putE (T := ⟨Ad, cd, D, some ⟨bl, 0, none⟩, cl, L⟩) hl (es.set p ⟨q, r⟩)] at h1
              exact h1
            obtain ⟨T', hT'⟩ : ∃ T' : Tab, T' = ⟨Ad, cd, D, some ⟨bl, 0, none⟩, cl, L.set 0 ⟨some ⟨b2, 0, none⟩, lc, es.set p ⟨q, r⟩⟩⟩ := ⟨_, rfl⟩
            have HS8 := sc_letter HS7 hT'
            have HM8 : Hid (Sm T'.D T'.E) := by rw [hT']; exact HM7
            clear HS7 HM7 hT'
            have C5 := own_box (tvC_box (nil_r HS8.out))
            have Z5 := own_lt (tvC_box (nil_r HS8.out))
            have R5 := HS8.out.sep.ownMid (P := P) (M := [bx 27 2 w.heap.size [.slice none 0 0, .slice none 0 0]]) (i := 0) (t := _) rfl
            have R6 := own_box R5
            have R7 := own_free R5
            go_wp2
            refine bodyPost_ret (v := tabV T') (by simp [results, Try.results37, go_sem, R6, tabV]) rfl ?_
            first | exact ⟨T', k7, rfl, HM8.out, by omega, HS8.out.out_ _ _⟩ | exact ⟨T', rfl, HM8.out, k7, by omega, HS8.out.out_ _ _⟩
        obtain rfl : x = 3 := by omega
        obtain ⟨i1, hi1, hy0, hy1, hy2⟩ := info_parts Try.info71
        go_upto_region 22 with (fail)
        obtain ⟨w4, hw4⟩ : ∃ w4, w4 = w3.alloc (.cells #[.int .i64 (-1), .bool false] 67) := ⟨_, rfl⟩
        obtain ⟨g10, hg10⟩ : ∃ g10, g10 = w3.heap.size := ⟨_, rfl⟩
        have X10 : Box w4 g10 67 #[.int .i64 (-1), .bool false] := by rw [hw4, hg10]; exact Box.new w3 _ _
        have HS6 : Hid (SepC W0 w4 g k3 (P ++ [bx 27 2 w.heap.size [.slice none 0 0, .slice none 0 0]] ++ tvT w1.heap.size T)) := by rw [hw4]; exact HS5.out.below (below_alloc _ _)
        rw [← hw4, ← hg10]
        have hZ3 := Z5
        clear C5 Z5 R5 hw4 hg10
        have D10 := X10.cell
        have L10 := X10.lt
        have C6 := own_box (tvC_box (nil_r HS6.out))
        have Z6 := own_lt (tvC_box (nil_r HS6.out))
        have hOw := (nil_r HS6.out).sep.ownMid (M := tvT w1.heap.size T) 2 (t := tR T.Al T.L.length T.cl T.L) rfl
        have he4 : T.L.length ≤ 4 := by have := HM.out.e4; rwa [Tab.E_len] at this
        have hsz := HS6.out.sep.bel.size
        go_upto_region 23 with (at_builtin; go_loud (refine wpList_app _ rfl _ _ 25 rfl W0.heap.size 71 i1 (.slice none 0 0) 1 24 Try.underlying25 hi1 hy0 hy1 hy2 rfl (by decide) _ _ _ _ rfl (World.ownsRow.alloc (World.ownsRow.alloc hOw _) _) _ _ _ _ rfl (Rd.one1 _ _ _ _) (by simp [Value.oneCell']) (by unfold maxLen; omega) (by omega) (by simp; omega) ?_; intro A' c' w5 hown hgrow hat; obtain ⟨C7, F7, S7⟩ := SepC.leafApp HS6.out ⟨some ⟨w4.heap.size, 0, none⟩, 4, List.replicate 4 noE⟩ (below_alloc w4 (.cells #[.int .i64 (-1), .bool false, .int .i64 (-1), .bool false, .int .i64 (-1), .bool false, .int .i64 (-1), .bool false] 67)) (World.ownsRow_lit w4 #[.int .i64 (-1), .bool false, .int .i64 (-1), .bool false, .int .i64 (-1), .bool false, .int .i64 (-1), .bool false] 4 (Nat.le_refl _) (by decide) rfl) _ hgrow hat hown; have HS9 := Lib.hid S7; have Z7 := (show w1.heap.size < w5.heap.size by have := own_lt (tvC_box (nil_r S7)); simpa using this); clear hown hgrow hat S7))
        obtain ⟨w6, hw6⟩ : ∃ w6, w6 = w5.setCell ⟨w1.heap.size, 1, none⟩ (.slice A' (T.L.length + 1) c') := ⟨_, rfl⟩
        rw [← hw6]
        have HS7 : Hid (SepC W0 w6 g k3 (P ++ [bx 27 2 w.heap.size [.slice none 0 0, .slice none 0 0]] ++ tvT w1.heap.size ⟨T.Ad, T.cd, T.D, A', c', T.L ++ [⟨some ⟨w4.heap.size, 0, none⟩, 4, List.replicate 4 noE⟩]⟩)) := by rw [hw6]; exact HS9.out
        have HM7 : Hid (Sm T.D (⟨T.Ad, T.cd, T.D, A', c', T.L ++ [⟨some ⟨w4.heap.size, 0, none⟩, 4, List.replicate 4 noE⟩]⟩ : Tab).E) := by
          have e : (⟨T.Ad, T.cd, T.D, A', c', T.L ++ [⟨some ⟨w4.heap.size, 0, none⟩, 4, List.replicate 4 noE⟩]⟩ : Tab).E = T.E ++ [List.replicate 4 noE] := by simp [Tab.E]
          rw [e]; exact HM.out.leaves _ (by simp)
        have eL : (T.L ++ [(⟨some ⟨w4.heap.size, 0, none⟩, 4, List.replicate 4 noE⟩ : Leaf)]).length = T.L.length + 1 := by simp
        clear C7 F7 Z7 HS9 hw6 C6 Z6 hOw X10 D10
        obtain ⟨T', hT'⟩ : ∃ T' : Tab, T' = ⟨T.Ad, T.cd, T.D, A', c', T.L ++ [⟨some ⟨w4.heap.size, 0, none⟩, 4, List.replicate 4 noE⟩]⟩ := ⟨_, rfl⟩
        have HS8 := sc_letter HS7 hT'
        have HM8 : Hid (Sm T'.D T'.E) := by rw [hT']; exact HM7
        clear HS7 HM7 hT'
        have C5 := own_box (tvC_box (nil_r HS8.out))
        have Z5 := own_lt (tvC_box (nil_r HS8.out))
        have R5 := HS8.out.sep.ownMid (P := P) (M := [bx 27 2 w.heap.size [.slice none 0 0, .slice none 0 0]]) (i := 0) (t := _) rfl
        have R6 := own_box R5
        have R7 := own_free R5
        go_wp2
        refine bodyPost_ret (v := tabV T') (by simp [results, Try.results37, go_sem, R6, tabV]) rfl ?_
        first | exact ⟨T', k3, rfl, HM8.out, by omega, HS8.out.out_ _ _⟩ | exact ⟨T', rfl, HM8.out, k3, by omega, HS8.out.out_ _ _⟩
end Go.Proofs.Ytaaocnfbbajphaa
