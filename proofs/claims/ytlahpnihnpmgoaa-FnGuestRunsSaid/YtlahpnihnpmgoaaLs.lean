/- Contract of l3Step: a step of a guest. The registers are four words, the instruction is valid. -/
import Derived.Test.YtlahpnihnpmgoaaNr
import Derived.Test.YtlahpnihnpmgoaaSe
import Derived.Deep.DrawnRows
import Derived.Deep.CutRange
import Derived.Deep.RegionHeld3
namespace Go.Proofs.Ytlahpnihnpmgoaa
open Go.RowKit
set_option linter.unusedVariables false
set_option linter.unusedSimpArgs false
attribute [local go_sem ↓] Go.wp_at_zero Go.wp_at_succ

theorem kcell {w w' : World} {b o : Nat} {v : Value} (h : Below w.heap.size w w') (hb : b < w.heap.size) (hc : w.cell? ⟨b, o, none⟩ = some v) : w'.cell? ⟨b, o, none⟩ = some v := (h.cell (p := ⟨b, o, none⟩) hb).trans hc
theorem kalloc {w : World} {b o : Nat} {v : Value} {ob : Obj} (hc : w.cell? ⟨b, o, none⟩ = some v) : (w.alloc ob).cell? ⟨b, o, none⟩ = some v :=
  kcell (below_alloc w ob) (by have := World.block_lt_of_cell? _ _ hc; exact this) hc
theorem kdrew {w : World} {b o : Nat} {v : Value} (hc : w.cell? ⟨b, o, none⟩ = some v) : w.drew.cell? ⟨b, o, none⟩ = some v := hc
theorem kset {w : World} {b o g p : Nat} {v u : Value} (h : b ≠ g) (hc : w.cell? ⟨b, o, none⟩ = some v) : (w.setCell ⟨g, p, none⟩ u).cell? ⟨b, o, none⟩ = some v := by
  rw [← hc]; exact World.cell?_of_block (w := w) (heap_setCell_other w ⟨g, p, none⟩ b u h)
theorem kdrew' {w : World} {a : Addr} {v : Option Value} (hc : w.cell? a = v) : w.drew.cell? a = v := hc
theorem hdrew (w : World) : w.drew.heap.size = w.heap.size := rfl
theorem stV_eq {o n : Int} {ja jb : Nat} {rs : List Int} {xa xb : Int} (ha : rs[ja]? = some xa) (hb : rs[jb]? = some xb) : stV ⟨o, ja, jb, n⟩ rs = vF o n xa xb := by
  simp [stV, rAt, ha, hb]
/-- what lies in memory in the midst of a step -/
abbrev stL (w : World) (A : Option Addr) (c j : Nat) (z s : Bool) (A2 : Option Addr) (c2 : Nat) (rs : List Int) (g5 : Nat) (a2 : Int) (z2 s2 : Bool) : List Thing :=
  [bx 37 4 w.heap.size [.slice A 4 c, .int .i64 j, .bool z, .bool s], bx 37 4 (w.heap.size + 1) [.slice none 0 0, .int .i64 0, .bool false, .bool false], ti A2 4 c2 rs, bx 37 4 g5 [.slice A2 4 c2, .int .i64 a2, .bool z2, .bool s2]]
set_option maxRecDepth 100000 in
set_option maxHeartbeats 4000000 in
theorem l3Step_any (Ap : Option Addr) (np cp : Nat) (ps : List RInstruction) (A : Option Addr) (c : Nat) (rs : List Int) (j : Nat) (z s : Bool) (o n : Int) (ja jb : Nat) (xa xb : Int) (w : World) (hp : Rd w 4 Ap np (J cInstruction ps)) (hr : Rd w 1 A 4 (I rs)) (hnp : np ≤ 1048576) (hj : j < np) (hx : Hid (ps[j]? = some ⟨o, ja, jb, n⟩))
    (ha : ja < 4) (hb : jb < 4) (hra : Hid (rs[ja]? = some xa)) (hrb : Hid (rs[jb]? = some xb)) (ha0 : 0 ≤ xa) (ha1 : xa ≤ 65535) (hb0 : 0 ≤ xb) (hb1 : xb ≤ 65535) (hn0 : 0 ≤ n) (hn1 : n ≤ 65535) (hn2 : Hid (o = 6 → n ≤ 15)) (ho0 : 0 ≤ o) (ho9 : o ≤ 9) :
    Calls Try.prog 44 #[.slice Ap np cp, regV A 4 c j z s] w fun e w' => ∃ A' c', e = .returned (regV A' 4 c' (stG np ⟨o, ja, jb, n⟩ rs j z).a (stG np ⟨o, ja, jb, n⟩ rs j z).z (stG np ⟨o, ja, jb, n⟩ rs j z).s) ∧ Own w' w.heap.size (ti A' 4 c' (stG np ⟨o, ja, jb, n⟩ rs j z).rs) ∧ Below w.heap.size w w' := by
  have S0 := (Sep.start w).new (below_alloc w _) (own_bx w 37 4 #[.slice A 4 c, .int .i64 j, .bool z, .bool s] rfl)
  have S1 := (S0.new (below_alloc _ _) (own_bx _ 37 4 #[.slice none 0 0, .int .i64 0, .bool false, .bool false] rfl))
  simp only [List.nil_append, List.cons_append, size_alloc] at S1
  have HS1 := Lib.hid S1
  clear S0 S1
  have C0 := own_box (HS1.out.own 0 _ rfl)
  have Z0 := own_lt (HS1.out.own 0 _ rfl)
  have HR := Lib.hid hr
  have hr' := Lib.hid hr
  clear hr
  go_enter Try.func44, Try.ntmps44
  go_upto_region 1 with (fail)
  go_cut [5] from 9 to 16 (fun x5 wx => ∃ (g5 : Nat) (A2 : Option Addr) (c2 : Nat), x5 = .pointer (some ⟨g5, 0, none⟩) ∧ Hid (Sep w wx (stL w A c j z s A2 c2 rs g5 j z false)))
  case first =>
    have S1 := HS1.out.below (Below.drew (Below.refl _ _))
    have d0 : ((w.alloc (.cells #[.slice A 4 c, .int .i64 j, .bool z, .bool s] 37)).alloc (.cells #[.slice none 0 0, .int .i64 0, .bool false, .bool false] 37)).cell? ⟨w.heap.size, 0, none⟩ = some (.slice A 4 c) := C0 0
    have c0 : (((w.alloc (.cells #[.slice A 4 c, .int .i64 j, .bool z, .bool s] 37)).alloc (.cells #[.slice none 0 0, .int .i64 0, .bool false, .bool false] 37)).drew).cell? ⟨w.heap.size, 0, none⟩ = some (.slice A 4 c) := kdrew' (C0 0)
    have d1 : ((w.alloc (.cells #[.slice A 4 c, .int .i64 j, .bool z, .bool s] 37)).alloc (.cells #[.slice none 0 0, .int .i64 0, .bool false, .bool false] 37)).cell? ⟨w.heap.size, 1, none⟩ = some (.int .i64 (j : Int)) := C0 1
    have c1 : (((w.alloc (.cells #[.slice A 4 c, .int .i64 j, .bool z, .bool s] 37)).alloc (.cells #[.slice none 0 0, .int .i64 0, .bool false, .bool false] 37)).drew).cell? ⟨w.heap.size, 1, none⟩ = some (.int .i64 (j : Int)) := kdrew' (C0 1)
    have d2 : ((w.alloc (.cells #[.slice A 4 c, .int .i64 j, .bool z, .bool s] 37)).alloc (.cells #[.slice none 0 0, .int .i64 0, .bool false, .bool false] 37)).cell? ⟨w.heap.size, 2, none⟩ = some (.bool z) := C0 2
    have c2 : (((w.alloc (.cells #[.slice A 4 c, .int .i64 j, .bool z, .bool s] 37)).alloc (.cells #[.slice none 0 0, .int .i64 0, .bool false, .bool false] 37)).drew).cell? ⟨w.heap.size, 2, none⟩ = some (.bool z) := kdrew' (C0 2)
    clear C0
    go_region_held3 (fun w' => w'.cell? ⟨w.heap.size, 0, none⟩ = some (.slice A 4 c) ∧ w'.cell? ⟨w.heap.size, 1, none⟩ = some (.int .i64 (j : Int)) ∧ w'.cell? ⟨w.heap.size, 2, none⟩ = some (.bool z))
      (first | (with_reducible exact ⟨q0, q1, q2⟩) | (with_reducible exact ⟨c0, c1, c2⟩) | (refine ⟨?_, ?_, ?_⟩ <;> (repeat (first | (with_reducible exact q0) | (with_reducible exact q1) | (with_reducible exact q2) | (with_reducible exact c0) | (with_reducible exact c1) | (with_reducible exact c2) | (with_reducible exact d0) | (with_reducible exact d1) | (with_reducible exact d2) | (with_reducible refine kset (by omega) ?_) | (with_reducible refine kalloc ?_) | (with_reducible refine kdrew ?_))))) (first
      | (go_at_call 43; (first | (have Sa := S1; refine (l1Own_any A 4 c rs _ (HR.out.keep Sa.bel) (by omega)).mono ?_) | (have Sa := S1.new (below_alloc _ _) (own_bx _ 37 4 #[.slice none 0 0, .int .i64 0, .bool false, .bool false] rfl); refine (l1Own_any A 4 c rs _ (HR.out.keep Sa.bel) (by omega)).mono ?_)); rintro e w2 ⟨A2, c2, rfl, ho2, hb2⟩; have S2 := Sa.new hb2 ho2; have q0 : w2.cell? ⟨w.heap.size, 0, none⟩ = some (.slice A 4 c) := own_box (S2.own 0 _ rfl) 0; have q1 : w2.cell? ⟨w.heap.size, 1, none⟩ = some (.int .i64 (j : Int)) := own_box (S2.own 0 _ rfl) 1; have q2 : w2.cell? ⟨w.heap.size, 2, none⟩ = some (.bool z) := own_box (S2.own 0 _ rfl) 2; have Y2 := own_lt (S2.own 0 _ rfl); (first | (have A5 := own_box (S2.own 2 _ rfl); have F5 := own_free (S2.own 2 _ rfl); have Y5 := own_lt (S2.own 2 _ rfl); (try simp only [hdrew, size_alloc] at A5 F5 Y5)) | skip)))
    all_goals simp only [hdrew, size_alloc, List.cons_append, List.nil_append] at S2
    all_goals have HS2 := Lib.hid S2
    all_goals clear S2
    all_goals
      go_wp2_with fail
      go_meet
      first
        | exact ⟨_, _, _, rfl, HS2.out.new (below_alloc _ _) (own_bx _ 37 4 #[.slice A2 4 c2, .int .i64 j, .bool z, .bool false] rfl)⟩
        | (refine ⟨_, A2, c2, rfl, ?_⟩
           have P := own_putAll [.slice A2 4 c2, .int .i64 j, .bool z, .bool false] _ _ 0 (HS2.out.own 2 _ rfl)
           have S3 := HS2.out.write 2 rfl P.2 _ P.1
           exact S3.perm (List.Perm.cons _ (List.Perm.cons _ (List.Perm.swap _ _ _))))
  case rest =>
    obtain ⟨g5, A2, c2, rfl, HS2⟩ := hcut
    clear HS1 C0 Z0
    have C0 := own_box (HS2.out.own 0 _ rfl)
    obtain ⟨b, of, x', rfl, hbl, hxk, p0, p1, p2, p3⟩ := atInstruction (hp.keep HS2.out.bel) hj
    obtain rfl := Option.some.inj (hxk.out.symm.trans hx.out)
    dsimp only at p0 p1 p2 p3
    have h0 : (0 : Int) ≤ (j : Int) := by omega
    have h1 : (j : Int) < (np : Int) := by omega
    go_upto_region 3 with (fail)
    obtain ⟨w5, hw5⟩ : ∃ w5, w5 = wc.alloc (.cells #[.int .i64 o, .int .i64 (ja : Int), .int .i64 (jb : Int), .int .i64 n] 52) := ⟨_, rfl⟩
    obtain ⟨g6, hg6⟩ : ∃ g6, g6 = wc.heap.size := ⟨_, rfl⟩
    have HS5 : Hid (Sep w w5 (stL w A c j z s A2 c2 rs g5 j z false ++ [bx 52 4 g6 [.int .i64 o, .int .i64 (ja : Int), .int .i64 (jb : Int), .int .i64 n]])) := by
      rw [hw5, hg6]; exact HS2.out.new (below_alloc _ _) (own_bx _ 52 4 #[.int .i64 o, .int .i64 (ja : Int), .int .i64 (jb : Int), .int .i64 n] rfl)
    rw [← hw5, ← hg6]
    clear hw5 hg6 HS2 C0 p0 p1 p2 p3
    have C0 := own_box (HS5.out.own 0 _ rfl)
    have C6 := own_box (HS5.out.own 4 _ rfl)
    have hG : stG np ⟨o, ja, jb, n⟩ rs j z = ⟨if puB o then rs.set ja (vF o n xa xb) else rs, if enB np ⟨o, ja, jb, n⟩ j z then j else nxI ⟨o, ja, jb, n⟩ j z, if puB o then vF o n xa xb == 0 else z, enB np ⟨o, ja, jb, n⟩ j z || o == 9⟩ := by
      unfold stG
      rw [stV_eq hra.out hrb.out]
      simp
    have HG := Lib.hid hG
    clear hG
    go_upto_region 4 with (fail)
    go_cut [32] from 25 to 31 (fun t wx => t = .bool (puB o) ∧ w5 = wx)
    case first =>
      have ho : o < 1 ∨ (1 ≤ o ∧ o ≤ 6) ∨ 6 < o := by omega
      rcases ho with ho | ⟨ho, ho'⟩ | ho
      · have HP := Lib.hid (show puB o = false by unfold puB; rw [Bool.and_eq_false_iff, decide_eq_false_iff_not]; left; omega)
        have t1 : ¬ (1 : Int) ≤ o := by omega
        go_wp2
        go_meet
        exact ⟨by rw [HP.out], rfl⟩
      · have HP := Lib.hid (show puB o = true by simp [puB, ho, ho'])
        go_wp2
        go_meet
        exact ⟨by rw [HP.out], rfl⟩
      · have HP := Lib.hid (show puB o = false by unfold puB; rw [Bool.and_eq_false_iff, decide_eq_false_iff_not, decide_eq_false_iff_not]; right; omega)
        have t1 : (1 : Int) ≤ o := by omega
        have t2 : ¬ o ≤ (6 : Int) := by omega
        go_wp2
        go_meet
        exact ⟨by rw [HP.out], rfl⟩
    case rest =>
    obtain ⟨rfl, rfl⟩ := hcut
    go_upto_if 32 with (fail)
    go_cut [5, 8] from 32 to 45 (fun x5 x8 wx => x5 = .pointer (some ⟨g5, 0, none⟩) ∧ Hid (Sep w wx (stL w A c j z s A2 c2 (if puB o then rs.set ja (vF o n xa xb) else rs) g5 j (if puB o then vF o n xa xb == 0 else z) false ++ [bx 52 4 g6 [.int .i64 o, .int .i64 (ja : Int), .int .i64 (jb : Int), .int .i64 n]])))
    case first =>
      cases hpb : puB o
      · go_wp2
        go_meet
        exact ⟨rfl, by rw [hpb]; exact HS5⟩
      · have HP := Lib.hid hpb
        clear hpb
        have hr5 := Lib.hid (hr'.out.keep HS5.out.bel)
        go_wp2_with fail
        refine (l3Value_any o n ja jb A c rs xa xb _ hr5.out ha hb hra hrb ha0 ha1 hb0 hb1 hn0 hn1 hn2.out HP.out).mono ?_
        rintro e w7 ⟨rfl, hb7⟩
        have HS7 := Lib.hid (HS5.out.below hb7)
        clear hb7 hr5 C0 C6
        obtain ⟨v, hv⟩ : ∃ v, v = vF o n xa xb := ⟨_, rfl⟩
        rw [← hv]
        have HV := Lib.hid hv
        clear hv
        have hA2 := own_someS (HS7.out.own 2 _ rfl) (by show 0 < 4; omega)
        obtain ⟨gA, rfl, _, hgl⟩ := hA2
        have cA : w7.cell? ⟨gA, ja, none⟩ = some (.int .i64 xa) := by
          rw [World.ownsRow.cellAt (HS7.out.own 2 _ rfl) ja (by show ja < 4 * 1; omega)]
          simp [I, hra.out]
        have fA := World.ownsRow.frozenAt (HS7.out.own 2 _ rfl) ja
        have C5 := own_box (HS7.out.own 3 _ rfl)
        have F5 := own_free (HS7.out.own 3 _ rfl)
        have C6 := own_box (HS7.out.own 4 _ rfl)
        have hs := World.ownsRow.stored (HS7.out.own 2 _ rfl) ja (.int .i64 v)
        rw [I_set] at hs
        have S8 := HS7.out.write 2 rfl hs.2 _ hs.1
        have hs2 := World.ownsRow.stored (S8.own 3 _ rfl) 2 (.bool (v == 0))
        have HS9 := Lib.hid (S8.write 3 rfl hs2.2 _ hs2.1)
        have C5' := own_box (S8.own 3 _ rfl)
        have F5' := own_free (S8.own 3 _ rfl)
        have C6' := own_box (S8.own 4 _ rfl)
        have k0 : (0 : Int) ≤ (ja : Int) := by omega
        have k1 : (ja : Int) < 4 := by omega
        clear hs hs2 S8
        go_wp2
        go_meet
        exact ⟨rfl, by rw [HP.out, if_pos rfl, if_pos rfl, ← HV.out]; exact HS9⟩
    case rest =>
      obtain ⟨rfl, HS6⟩ := hcut
      clear HS5 C0 C6
      have C0 := own_box (HS6.out.own 0 _ rfl)
      have C6 := own_box (HS6.out.own 4 _ rfl)
      go_upto_region 8 with (fail)
      obtain ⟨w8, hw8⟩ : ∃ w8, w8 = wc := ⟨_, rfl⟩
      rw [← hw8] at HS6 C0 C6 ⊢
      clear hw8
      go_cut [57] from 46 to 57 (fun t wx => t = .bool (o == 7 || (o == 8 && z)) ∧ w8 = wx)
      case first =>
        by_cases h7 : o = 7
        · subst h7
          go_wp2
          go_meet
          exact ⟨rfl, rfl⟩
        · have t7 : (o == 7) = false := by simp [h7]
          have HT7 := Lib.hid t7
          by_cases h8 : o = 8
          · subst h8
            cases z
            all_goals
              go_wp2
              go_meet
              exact ⟨rfl, rfl⟩
          · have t8 : (o == 8) = false := by simp [h8]
            have HT8 := Lib.hid t8
            go_wp2
            go_meet
            exact ⟨by rw [HT7.out, HT8.out]; rfl, rfl⟩
      case rest =>
      obtain ⟨rfl, rfl⟩ := hcut
      go_upto_if 57 with (fail)
      go_cut [7] from 57 to 59 (fun t wx => t = .int .i64 (nxI ⟨o, ja, jb, n⟩ j z) ∧ w8 = wx)
      case first =>
        cases hq : (o == 7 || (o == 8 && z))
        · have HQ := Lib.hid hq
          clear hq
          go_wp2
          go_meet
          exact ⟨by unfold nxI; dsimp only; rw [HQ.out]; rfl, rfl⟩
        · have HQ := Lib.hid hq
          clear hq
          go_wp2
          go_meet
          exact ⟨by unfold nxI; dsimp only; rw [HQ.out]; rfl, rfl⟩
      case rest =>
        obtain ⟨rfl, rfl⟩ := hcut
        have C5 := own_box (HS6.out.own 3 _ rfl)
        have F5 := own_free (HS6.out.own 3 _ rfl)
        obtain ⟨nx, hnx⟩ : ∃ nx, nx = nxI ⟨o, ja, jb, n⟩ j z := ⟨_, rfl⟩
        rw [← hnx]
        have HN := Lib.hid hnx
        have HB : nx ≤ 9000000 ∧ -9000000 ≤ nx := by rw [hnx]; unfold nxI; dsimp only; split <;> omega
        obtain ⟨hb1, hb2⟩ := HB
        clear hnx
        obtain ⟨z2, hz2⟩ : ∃ z2, z2 = (if puB o then vF o n xa xb == 0 else z) := ⟨_, rfl⟩
        obtain ⟨r2, hr2⟩ : ∃ r2, r2 = (if puB o then rs.set ja (vF o n xa xb) else rs) := ⟨_, rfl⟩
        rw [← hz2] at C5 HS6 HG
        rw [← hr2] at HS6 HG
        clear hz2 hr2
        by_cases hq : o = 0 ∨ (np : Int) ≤ nx
        · have HE := Lib.hid (show enB np ⟨o, ja, jb, n⟩ j z = true by unfold enB; rw [← HN.out]; rcases hq with h | h <;> simp [h])
          have HGs := Lib.hid (show stG np ⟨o, ja, jb, n⟩ rs j z = ⟨r2, j, z2, true⟩ by rw [HG.out, HE.out]; rfl)
          have hs := World.ownsRow.stored (HS6.out.own 3 _ rfl) 3 (.bool true)
          have HS8 := Lib.hid (HS6.out.write 3 rfl hs.2 _ hs.1)
          clear hs HG HS6
          have hq' : o = 0 ∨ (¬ o = 0 ∧ (np : Int) ≤ nx) := by omega
          rcases hq' with h | ⟨h, h'⟩
          · subst h
            go_upto_region 12 with (fail)
            obtain ⟨w9, hw9⟩ : ∃ w9, w9 = w8.setCell ⟨g5, 3, none⟩ (.bool true) := ⟨_, rfl⟩
            rw [← hw9]
            have HS9 : Hid (Sep w w9 (stL w A c j z s A2 c2 r2 g5 j z2 true ++ [bx 52 4 g6 [.int .i64 0, .int .i64 (ja : Int), .int .i64 (jb : Int), .int .i64 n]])) := by rw [hw9]; exact HS8
            clear hw9 HS8 C0 C6 C5 F5
            have C5 := own_box (HS9.out.own 3 _ rfl)
            have C1 := own_box (HS9.out.own 1 _ rfl)
            have F1 := own_free (HS9.out.own 1 _ rfl)
            have P8 := own_putAll [.slice A2 4 c2, .int .i64 j, .bool z2, .bool true] _ _ 0 (HS9.out.own 1 _ rfl)
            have HS10 := Lib.hid (HS9.out.write 1 rfl P8.2 _ P8.1)
            clear P8 HS9
            go_wp2
            refine bodyPost_ret (v := regV A2 4 c2 j z2 true) (by simp [results, Try.results44, go_sem, C1, F1]) rfl ?_
            rw [HGs.out]
            exact ⟨_, _, rfl, HS10.out.own 2 _ rfl, HS10.out.bel⟩
          · have t0 : (o == 0) = false := by simp [h]
            clear hq
            go_upto_region 12 with (fail)
            obtain ⟨w9, hw9⟩ : ∃ w9, w9 = w8.setCell ⟨g5, 3, none⟩ (.bool true) := ⟨_, rfl⟩
            rw [← hw9]
            have HS9 : Hid (Sep w w9 (stL w A c j z s A2 c2 r2 g5 j z2 true ++ [bx 52 4 g6 [.int .i64 o, .int .i64 (ja : Int), .int .i64 (jb : Int), .int .i64 n]])) := by rw [hw9]; exact HS8
            clear hw9 HS8 C0 C6 C5 F5
            have C5 := own_box (HS9.out.own 3 _ rfl)
            have C1 := own_box (HS9.out.own 1 _ rfl)
            have F1 := own_free (HS9.out.own 1 _ rfl)
            have P8 := own_putAll [.slice A2 4 c2, .int .i64 j, .bool z2, .bool true] _ _ 0 (HS9.out.own 1 _ rfl)
            have HS10 := Lib.hid (HS9.out.write 1 rfl P8.2 _ P8.1)
            clear P8 HS9
            go_wp2
            refine bodyPost_ret (v := regV A2 4 c2 j z2 true) (by simp [results, Try.results44, go_sem, C1, F1]) rfl ?_
            rw [HGs.out]
            exact ⟨_, _, rfl, HS10.out.own 2 _ rfl, HS10.out.bel⟩
        · have HE := Lib.hid (show enB np ⟨o, ja, jb, n⟩ j z = false by unfold enB; rw [← HN.out]; rw [Bool.or_eq_false_iff]; refine ⟨by simp; omega, by simp; omega⟩)
          have HGs := Lib.hid (show stG np ⟨o, ja, jb, n⟩ rs j z = ⟨r2, nx, z2, o == 9⟩ by rw [HG.out, HE.out, HN.out]; rfl)
          have hs := World.ownsRow.stored (HS6.out.own 3 _ rfl) 1 (.int .i64 nx)
          have S7 := HS6.out.write 3 rfl hs.2 _ hs.1
          have hs' := World.ownsRow.stored (S7.own 3 _ rfl) 3 (.bool (o == 9))
          have HS8 := Lib.hid (S7.write 3 rfl hs'.2 _ hs'.1)
          have C5' := own_box (S7.own 3 _ rfl)
          have F5' := own_free (S7.own 3 _ rfl)
          have C6' := own_box (S7.own 4 _ rfl)
          clear S7 hs hs' HG HS6
          have t0 : (o == 0) = false := by simp; omega
          have t1 : ¬ (np : Int) ≤ nx := by omega
          clear hq
          go_upto_region 15 with (fail)
          obtain ⟨w9, hw9⟩ : ∃ w9, w9 = (w8.setCell ⟨g5, 1, none⟩ (.int .i64 nx)).setCell ⟨g5, 3, none⟩ (.bool (o == 9)) := ⟨_, rfl⟩
          rw [← hw9]
          have HS9 : Hid (Sep w w9 (stL w A c j z s A2 c2 r2 g5 nx z2 (o == 9) ++ [bx 52 4 g6 [.int .i64 o, .int .i64 (ja : Int), .int .i64 (jb : Int), .int .i64 n]])) := by rw [hw9]; exact HS8
          clear hw9 HS8 C5' F5' C6' C0 C6 C5 F5
          have C5 := own_box (HS9.out.own 3 _ rfl)
          have C1 := own_box (HS9.out.own 1 _ rfl)
          have F1 := own_free (HS9.out.own 1 _ rfl)
          have P8 := own_putAll [.slice A2 4 c2, .int .i64 nx, .bool z2, .bool (o == 9)] _ _ 0 (HS9.out.own 1 _ rfl)
          have HS10 := Lib.hid (HS9.out.write 1 rfl P8.2 _ P8.1)
          clear P8 HS9
          go_wp2
          refine bodyPost_ret (v := regV A2 4 c2 nx z2 (o == 9)) (by simp [results, Try.results44, go_sem, C1, F1]) rfl ?_
          rw [HGs.out]
          exact ⟨_, _, rfl, HS10.out.own 2 _ rfl, HS10.out.bel⟩
end Go.Proofs.Ytlahpnihnpmgoaa
