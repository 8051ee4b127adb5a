/- Contract of the program's ReachedBy: the rising list of what is reached. Lengths at most 2^20. -/
import Derived.Test.YtlahpnihnpmgoaaRe
import Derived.Deep.RegionHeld3
import Derived.Deep.CutRange
namespace Go.Proofs.Ytlahpnihnpmgoaa
open Go.RowKit
set_option linter.unusedVariables false
set_option linter.unusedSimpArgs false

theorem perm4x {α : Type} (a b c d : α) : [a, b, c, d].Perm [a, d, b, c] := .cons _ ((List.Perm.cons _ (.swap _ _ _)).trans (.swap _ _ _))
abbrev insC (x : RInstruction) : Array Value := #[.int .i64 x.f0, .int .i64 x.f1, .int .i64 x.f2, .int .i64 x.f3]
set_option maxRecDepth 100000 in
set_option maxHeartbeats 8000000 in
theorem i_ReachedBy_any (Ap : Option Addr) (np cp : Nat) (ps : List RInstruction) (w : World) (hr : Rd w 4 Ap np (J cInstruction ps)) (hn : np ≤ 1048576) (r : Bool) (hR : progB ps = r) :
    Calls Try.prog 8 #[.slice Ap np cp] w (RPost r ps w) := by
  obtain ⟨i0, hi, hz0, hz1, hz2⟩ := info_parts Try.info3
  have hl := hr.lenS posInstruction cInstruction_len
  have HR := Lib.hid hR
  clear hR
  cases r
  · go_enter Try.func8, Try.ntmps8
    go_wp2_with fail
    refine (i_IsProgram_eq Ap np cp ps _ hr (by omega) false HR.out).mono ?_
    rintro e w1 ⟨rfl, hb1⟩
    go_wp2
    go_ret2
    exact ⟨none, 0, 0, [], rfl, own_nil _ _, rfl, by omega, hb1⟩
  · have hnp := prog_bd HR.out
    go_enter Try.func8, Try.ntmps8
    go_wp2_with fail
    refine (i_IsProgram_eq Ap np cp ps _ hr (by omega) true HR.out).mono ?_
    rintro e w1 ⟨rfl, hb1⟩
    have HS1 := Lib.hid (((Sep.start w).below hb1).new (below_alloc w1 (.cells #[.int .i64 0] 3)) (t := ti (some ⟨w1.heap.size, 0, none⟩) 1 1 [0]) (own_bx w1 3 1 #[.int .i64 0] rfl))
    have HF1 := Lib.hid (Bfs.start (ps := ps) (by omega))
    clear hb1
    go_wp2
    go_loopw [4, 5, 6, 7, 9, 51] (fun o at_ _ _ _ _ wr => ∃ (A : Option Addr) (c L k : Nat) (l : List Int), o = .slice A L c ∧ at_ = .int .i64 k ∧ k ≤ L ∧ L ≤ 16 ∧ Hid (Sep w wr [ti A L c l]) ∧ Hid (Bfs ps k l)) (fun _ at_ _ _ _ _ _ => 20 - (intOf at_).toNat)
    case atStart => exact ⟨_, 1, 1, 0, [0], rfl, rfl, by omega, by omega, HS1, HF1⟩
    case round =>
      obtain ⟨A, c, L, k, l, rfl, rfl, hkL, hL16, HS, HF⟩ := hrel
      clear HS1 HF1
      have hLl : l.length = L := (HS.out.rd 0 rfl).len
      by_cases hlt : k < L
      · obtain ⟨g, o1, v, rfl, hbl, hvk, hc⟩ := (show Rd wr 1 A L (I l) from HS.out.rd 0 rfl).at_ hlt
        have hv := HF.out.bd v (List.mem_of_getElem? hvk.out)
        obtain ⟨j, rfl⟩ := Int.eq_ofNat_of_zero_le hv.1
        obtain ⟨bp, op_, x, rfl, hblp, hxk, hc0, hc1, hc2, hc3⟩ := atInstruction (hr.keep HS.out.bel) (show j < np by omega)
        have h0 : (0 : Int) ≤ (k : Int) := by omega
        have h1 : (k : Int) < (L : Int) := by omega
        have h2 : (0 : Int) ≤ (j : Int) := by omega
        have h3 : (j : Int) < (np : Int) := by omega
        go_upto_region 7 with (fail)
        go_cut [6, 7] from 20 to 32 (fun t6 t7 wx => ∃ gx gs : Nat, t6 = .pointer (some ⟨gx, 0, none⟩) ∧ t7 = .slice (some ⟨gs, 0, none⟩) 1 1 ∧ Hid (Sep w wx [ti (some ⟨g, o1, none⟩) L c l, ti (some ⟨gs, 0, none⟩) 1 1 [(j : Int) + 1], bx 52 4 gx (insC x).toList]))
        case first =>
          have hwr : IntKind.i64.wrap ((j : Int) + 1) = (j : Int) + 1 := by rw [IntKind.wrap_i64]; omega
          have S1 : Hid (Sep w ((wr.alloc (.cells #[.int .i64 ((j : Int) + 1)] 3)).alloc (.cells (insC x) 52)).drew [ti (some ⟨g, o1, none⟩) L c l, ti (some ⟨wr.heap.size, 0, none⟩) 1 1 [(j : Int) + 1], bx 52 4 (wr.heap.size + 1) (insC x).toList]) := by
            have h := (HS.out.new (below_alloc wr (.cells #[.int .i64 ((j : Int) + 1)] 3)) (t := ti (some ⟨wr.heap.size, 0, none⟩) 1 1 [(j : Int) + 1]) (own_bx wr 3 1 #[.int .i64 ((j : Int) + 1)] rfl)).new (below_alloc _ (.cells (insC x) 52)) (own_bx _ 52 4 (insC x) rfl)
            rw [size_alloc] at h
            exact Lib.hid (h.below (Below.drew (Below.refl _ _)))
          have S2 : Hid (Sep w ((wr.alloc (.cells (insC x) 52)).alloc (.cells #[.int .i64 ((j : Int) + 1)] 3)).drew [ti (some ⟨g, o1, none⟩) L c l, ti (some ⟨wr.heap.size + 1, 0, none⟩) 1 1 [(j : Int) + 1], bx 52 4 wr.heap.size (insC x).toList]) := by
            have h := ((HS.out.new (below_alloc wr (.cells (insC x) 52)) (own_bx wr 52 4 (insC x) rfl)).new (below_alloc _ (.cells #[.int .i64 ((j : Int) + 1)] 3)) (t := ti (some ⟨(wr.alloc (.cells (insC x) 52)).heap.size, 0, none⟩) 1 1 [(j : Int) + 1]) (own_bx _ 3 1 #[.int .i64 ((j : Int) + 1)] rfl)).perm (.cons _ (.swap _ _ _))
            rw [size_alloc] at h
            exact Lib.hid (h.below (Below.drew (Below.refl _ _)))
          go_region_law (fail)
          all_goals
            go_wp2_with fail
            go_meet
            first
              | exact ⟨_, _, rfl, rfl, S1⟩
              | exact ⟨_, _, rfl, rfl, S2⟩
        case rest =>
          obtain ⟨gx, gs, rfl, rfl, HSX⟩ := hcut
          have HXA := Lib.hid (insA_at hxk.out)
          obtain ⟨hx0, hx3⟩ := prog_ins HR.out hxk.out
          have HSTEP := Lib.hid (show Bfs ps (k + 1) (addA np l (sucL x (j : Int))) by
            have h := HF.out.step hvk.out (by
              rw [HXA.out]
              intro q hq
              unfold sucL at hq
              split at hq
              · cases hq
              · split at hq
                · rw [List.mem_singleton.1 hq]; omega
                · split at hq
                  · simp at hq; omega
                  · rw [List.mem_singleton.1 hq]; omega)
            rw [HXA.out, hl] at h
            exact h)
          clear HS hc hc0 hc1 hc2 hc3 hbl hblp hxk hvk
          have C := own_box (HSX.out.own 2 _ rfl)
          have hcs : x.f0 = 0 ∨ x.f0 = 7 ∨ x.f0 = 8 ∨ (x.f0 ≠ 0 ∧ x.f0 ≠ 7 ∧ x.f0 ≠ 8) := by omega
          rcases hcs with h | h | h | ⟨ha, hb, hc⟩
          · have q0 : (x.f0 == 0) = true := by simp [h]
            have HSL := Lib.hid (show ([] : List Int) = sucL x (j : Int) by simp [sucL, h])
            have HB2 := Lib.hid (show Bfs ps (k + 1) l by have := HSTEP.out; rw [← HSL.out] at this; exact this)
            have hk2 : k + 1 ≤ L := by have := HB2.out.le; omega
            clear h
            go_wp2
            go_loopw [4, 9, 51] (fun o _ i wr => o = .slice (some ⟨g, o1, none⟩) L c ∧ i = .int .i64 0 ∧ Hid (Sep w wr [ti (some ⟨g, o1, none⟩) L c l])) (fun _ _ _ _ => 0)
            case atStart => exact ⟨rfl, rfl, Lib.hid (Sep.takeL (P := [ti (some ⟨g, o1, none⟩) L c l]) (M := [_, _]) HSX.out)⟩
            case round =>
              obtain ⟨rfl, rfl, HSm⟩ := hrel
              go_wp2
              go_roundw
              case rel => exact ⟨_, c, L, k + 1, _, rfl, by go_num, hk2, hL16, HSm, HB2⟩
              case measure => simp [intOf]; omega
          · have q0 : (x.f0 == 0) = false := by simp [h]
            have q7 : (x.f0 == 7) = true := by simp [h]
            obtain ⟨sl, hsl⟩ : ∃ sl, sl = [x.f3] := ⟨_, rfl⟩
            have HSL := Lib.hid (show sl = sucL x (j : Int) by rw [hsl]; simp [sucL, h])
            clear h
            have HS7 := Lib.hid (Sep.takeL (P := [ti (some ⟨g, o1, none⟩) L c l, ti (some ⟨wc.heap.size, 0, none⟩) 1 1 sl]) (M := [_, _]) ((HSX.out.new (below_alloc wc (.cells #[.int .i64 x.f3] 3)) (t := ti (some ⟨wc.heap.size, 0, none⟩) 1 1 sl) (by rw [hsl]; exact own_bx wc 3 1 #[.int .i64 x.f3] rfl)).perm (perm4x _ _ _ _)))
            have HSN := Lib.hid (show sl.length = 1 by rw [hsl]; rfl)
            clear hsl
            go_wp2_with fail
            clear HSX C
            go_loopw [4, 9, 51] (fun o _ i wr => ∃ (A' : Option Addr) (c' L' m : Nat), m ≤ 1 ∧ i = .int .i64 m ∧ o = .slice A' L' c' ∧ L' ≤ L + m ∧ Hid (Sep w wr [ti A' L' c' (addA np l (sl.take m)), ti (some ⟨wc.heap.size, 0, none⟩) 1 1 sl])) (fun _ _ i _ => 1 - (intOf i).toNat)
            case atStart => exact ⟨_, c, L, 0, by omega, rfl, rfl, by omega, HS7⟩
            case round =>
              obtain ⟨A', c', L', m, hm, rfl, rfl, hL', HSm⟩ := hrel
              clear HS7
              by_cases hlm : m < 1
              · obtain ⟨b7, o7, v2, he7, hbl7, hv2, hc7⟩ := (show Rd wr 1 (some ⟨wc.heap.size, 0, none⟩) 1 (I sl) from HSm.out.rd 1 rfl).at_ hlm
                cases he7
                try rw [Nat.zero_add] at hc7
                have HAD := Lib.hid (show addA np l (sl.take (m + 1)) = addI np (addA np l (sl.take m)) v2 by rw [take_snoc hv2.out]; unfold addA; rw [List.foldl_append]; rfl)
                have m0 : (0 : Int) ≤ (m : Int) := by omega
                have m1 : (m : Int) < 1 := by omega
                obtain ⟨ol, hol⟩ : ∃ ol, ol = addA np l (sl.take m) := ⟨_, rfl⟩
                rw [← hol] at HSm HAD
                clear hol
                by_cases hvn : v2 < (np : Int)
                · cases hct : decide (v2 ∈ ol)
                  · have HCT := Lib.hid hct
                    have HADE := Lib.hid (show addA np l (sl.take (m + 1)) = ol ++ [v2] by rw [HAD.out, addI, if_pos ⟨hvn, by simpa using hct⟩])
                    clear hct
                    go_wp2_with fail
                    refine (contains_eq A' L' c' ol v2 _ (HSm.out.rd 0 rfl) (by omega) false HCT.out).mono ?_
                    rintro e w8 ⟨rfl, rfl⟩
                    have hsz := HSm.out.bel.size
                    go_wp2_with (at_builtin; refine wpList_app _ rfl _ _ 24 rfl w.heap.size 3 i0 (.int .i64 0) 1 8 Try.underlying24 hi hz0 hz1 hz2 rfl (by decide) _ _ _ _ rfl (World.ownsRow.alloc (show Own _ w.heap.size (ti A' L' c' ol) from HSm.out.own 0 _ rfl) _) _ _ _ _ rfl (Rd.one _ _ _) (by simp [Value.oneCell']) (by unfold maxLen; omega) (by omega) (by simp; omega) ?_; intro A9 c9 w9 hown hgrow hat)
                    have HS9 := Lib.hid ((HSm.out.below (below_alloc _ (.cells #[.int .i64 v2] 3))).app 0 (t' := ti A9 (L' + 1) c9 (ol ++ [v2])) rfl hgrow hat (by show World.ownsRow _ _ _ 1 _ _ (I (ol ++ [v2])); rw [I_append]; exact hown))
                    rw [← HADE.out] at HS9
                    clear hown hgrow hat HSm
                    go_wp2
                    go_roundw
                    case rel => exact ⟨A9, c9, L' + 1, m + 1, by omega, by go_num, rfl, by omega, HS9⟩
                    case measure => simp [intOf]; omega
                  · have HCT := Lib.hid hct
                    have HADE := Lib.hid (show addA np l (sl.take (m + 1)) = ol by rw [HAD.out, addI, if_neg (fun h => h.2 (by simpa using hct))])
                    clear hct
                    go_wp2_with fail
                    refine (contains_eq A' L' c' ol v2 _ (HSm.out.rd 0 rfl) (by omega) true HCT.out).mono ?_
                    rintro e w8 ⟨rfl, rfl⟩
                    go_wp2
                    go_roundw
                    case rel => exact ⟨A', c', L', m + 1, by omega, by go_num, rfl, by omega, by rw [HADE.out]; exact HSm⟩
                    case measure => simp [intOf]; omega
                · have HADE := Lib.hid (show addA np l (sl.take (m + 1)) = ol by rw [HAD.out, addI, if_neg (fun h => hvn h.1)])
                  go_wp2
                  go_roundw
                  case rel => exact ⟨A', c', L', m + 1, by omega, by go_num, rfl, by omega, by rw [HADE.out]; exact HSm⟩
                  case measure => simp [intOf]; omega
              · obtain rfl : m = 1 := by omega
                rw [List.take_of_length_le (by rw [HSN.out]; exact Nat.le_refl _)] at HSm
                have HB2 := Lib.hid (show Bfs ps (k + 1) (addA np l sl) by rw [HSL.out]; exact HSTEP.out)
                have hL2 : L' ≤ 16 := by
                  have h5 := HB2.out.len
                  have h6 : (addA np l sl).length = L' := (HSm.out.rd 0 rfl).len
                  omega
                have hk2 : k + 1 ≤ L' := by
                  have h5 := HB2.out.le
                  have h6 : (addA np l sl).length = L' := (HSm.out.rd 0 rfl).len
                  omega
                go_wp2
                go_roundw
                case rel => exact ⟨A', c', L', k + 1, _, rfl, by go_num, hk2, hL2, Lib.hid (Sep.takeL (P := [ti A' L' c' (addA np l sl)]) (M := [_]) HSm.out), HB2⟩
                case measure => simp [intOf]; omega
          · have q0 : (x.f0 == 0) = false := by simp [h]
            have q7 : (x.f0 == 7) = false := by simp [h]
            have q8 : (x.f0 == 8) = true := by simp [h]
            obtain ⟨sl, hsl⟩ : ∃ sl, sl = [(j : Int) + 1] ++ [x.f3] := ⟨_, rfl⟩
            have HSL := Lib.hid (show sl = sucL x (j : Int) by rw [hsl]; simp [sucL, h])
            have HSN := Lib.hid (show sl.length = 2 by rw [hsl]; rfl)
            have HSQ := Lib.hid hsl
            clear h hsl
            have hsz := HSX.out.bel.size
            go_wp2_with (at_builtin; refine wpList_app _ rfl _ _ 24 rfl w.heap.size 3 i0 (.int .i64 0) 1 8 Try.underlying24 hi hz0 hz1 hz2 rfl (by decide) _ _ _ _ rfl (World.ownsRow.alloc (show Own _ w.heap.size (ti (some ⟨gs, 0, none⟩) 1 1 [(j : Int) + 1]) from HSX.out.own 1 _ rfl) _) _ _ _ _ rfl (Rd.one _ _ _) (by simp [Value.oneCell']) (by unfold maxLen; omega) (by omega) (by simp; omega) ?_; intro A7 c7 w7 hown hgrow hat)
            have HS7 := Lib.hid (Sep.takeL (P := [ti (some ⟨g, o1, none⟩) L c l, ti A7 2 c7 sl]) (M := [_]) ((HSX.out.below (below_alloc _ (.cells #[.int .i64 x.f3] 3))).app 1 (t' := ti A7 2 c7 sl) rfl hgrow hat (by show World.ownsRow _ _ _ 1 _ _ (I sl); rw [HSQ.out, I_append]; exact hown)))
            clear hown hgrow hat HSX C HSQ
            go_wp2
            go_loopw [4, 9, 51] (fun o _ i wr => ∃ (A' : Option Addr) (c' L' m : Nat), m ≤ 2 ∧ i = .int .i64 m ∧ o = .slice A' L' c' ∧ L' ≤ L + m ∧ Hid (Sep w wr [ti A' L' c' (addA np l (sl.take m)), ti (A7) 2 c7 sl])) (fun _ _ i _ => 2 - (intOf i).toNat)
            case atStart => exact ⟨_, c, L, 0, by omega, rfl, rfl, by omega, HS7⟩
            case round =>
              obtain ⟨A', c', L', m, hm, rfl, rfl, hL', HSm⟩ := hrel
              clear HS7
              by_cases hlm : m < 2
              · obtain ⟨b7, o7, v2, he7, hbl7, hv2, hc7⟩ := (show Rd wr 1 (A7) 2 (I sl) from HSm.out.rd 1 rfl).at_ hlm
                cases he7
                try rw [Nat.zero_add] at hc7
                have HAD := Lib.hid (show addA np l (sl.take (m + 1)) = addI np (addA np l (sl.take m)) v2 by rw [take_snoc hv2.out]; unfold addA; rw [List.foldl_append]; rfl)
                have m0 : (0 : Int) ≤ (m : Int) := by omega
                have m1 : (m : Int) < 2 := by omega
                obtain ⟨ol, hol⟩ : ∃ ol, ol = addA np l (sl.take m) := ⟨_, rfl⟩
                rw [← hol] at HSm HAD
                clear hol
                by_cases hvn : v2 < (np : Int)
                · cases hct : decide (v2 ∈ ol)
                  · have HCT := Lib.hid hct
                    have HADE := Lib.hid (show addA np l (sl.take (m + 1)) = ol ++ [v2] by rw [HAD.out, addI, if_pos ⟨hvn, by simpa using hct⟩])
                    clear hct
                    go_wp2_with fail
                    refine (contains_eq A' L' c' ol v2 _ (HSm.out.rd 0 rfl) (by omega) false HCT.out).mono ?_
                    rintro e w8 ⟨rfl, rfl⟩
                    have hsz := HSm.out.bel.size
                    go_wp2_with (at_builtin; refine wpList_app _ rfl _ _ 24 rfl w.heap.size 3 i0 (.int .i64 0) 1 8 Try.underlying24 hi hz0 hz1 hz2 rfl (by decide) _ _ _ _ rfl (World.ownsRow.alloc (show Own _ w.heap.size (ti A' L' c' ol) from HSm.out.own 0 _ rfl) _) _ _ _ _ rfl (Rd.one _ _ _) (by simp [Value.oneCell']) (by unfold maxLen; omega) (by omega) (by simp; omega) ?_; intro A9 c9 w9 hown hgrow hat)
                    have HS9 := Lib.hid ((HSm.out.below (below_alloc _ (.cells #[.int .i64 v2] 3))).app 0 (t' := ti A9 (L' + 1) c9 (ol ++ [v2])) rfl hgrow hat (by show World.ownsRow _ _ _ 1 _ _ (I (ol ++ [v2])); rw [I_append]; exact hown))
                    rw [← HADE.out] at HS9
                    clear hown hgrow hat HSm
                    go_wp2
                    go_roundw
                    case rel => exact ⟨A9, c9, L' + 1, m + 1, by omega, by go_num, rfl, by omega, HS9⟩
                    case measure => simp [intOf]; omega
                  · have HCT := Lib.hid hct
                    have HADE := Lib.hid (show addA np l (sl.take (m + 1)) = ol by rw [HAD.out, addI, if_neg (fun h => h.2 (by simpa using hct))])
                    clear hct
                    go_wp2_with fail
                    refine (contains_eq A' L' c' ol v2 _ (HSm.out.rd 0 rfl) (by omega) true HCT.out).mono ?_
                    rintro e w8 ⟨rfl, rfl⟩
                    go_wp2
                    go_roundw
                    case rel => exact ⟨A', c', L', m + 1, by omega, by go_num, rfl, by omega, by rw [HADE.out]; exact HSm⟩
                    case measure => simp [intOf]; omega
                · have HADE := Lib.hid (show addA np l (sl.take (m + 1)) = ol by rw [HAD.out, addI, if_neg (fun h => hvn h.1)])
                  go_wp2
                  go_roundw
                  case rel => exact ⟨A', c', L', m + 1, by omega, by go_num, rfl, by omega, by rw [HADE.out]; exact HSm⟩
                  case measure => simp [intOf]; omega
              · obtain rfl : m = 2 := by omega
                rw [List.take_of_length_le (by rw [HSN.out]; exact Nat.le_refl _)] at HSm
                have HB2 := Lib.hid (show Bfs ps (k + 1) (addA np l sl) by rw [HSL.out]; exact HSTEP.out)
                have hL2 : L' ≤ 16 := by
                  have h5 := HB2.out.len
                  have h6 : (addA np l sl).length = L' := (HSm.out.rd 0 rfl).len
                  omega
                have hk2 : k + 1 ≤ L' := by
                  have h5 := HB2.out.le
                  have h6 : (addA np l sl).length = L' := (HSm.out.rd 0 rfl).len
                  omega
                go_wp2
                go_roundw
                case rel => exact ⟨A', c', L', k + 1, _, rfl, by go_num, hk2, hL2, Lib.hid (Sep.takeL (P := [ti A' L' c' (addA np l sl)]) (M := [_]) HSm.out), HB2⟩
                case measure => simp [intOf]; omega
          · have q0 : (x.f0 == 0) = false := by simp [ha]
            have q7 : (x.f0 == 7) = false := by simp [hb]
            have q8 : (x.f0 == 8) = false := by simp [hc]
            obtain ⟨sl, hsl⟩ : ∃ sl, sl = [(j : Int) + 1] := ⟨_, rfl⟩
            have HSL := Lib.hid (show sl = sucL x (j : Int) by rw [hsl]; simp [sucL, ha, hb, hc])
            have HSN := Lib.hid (show sl.length = 1 by rw [hsl]; rfl)
            have HS7 := Lib.hid (Sep.takeL (P := [ti (some ⟨g, o1, none⟩) L c l, ti (some ⟨gs, 0, none⟩) 1 1 sl]) (M := [_]) (by rw [hsl]; exact HSX.out))
            clear ha hb hc hsl
            go_wp2
            go_loopw [4, 9, 51] (fun o _ i wr => ∃ (A' : Option Addr) (c' L' m : Nat), m ≤ 1 ∧ i = .int .i64 m ∧ o = .slice A' L' c' ∧ L' ≤ L + m ∧ Hid (Sep w wr [ti A' L' c' (addA np l (sl.take m)), ti (some ⟨gs, 0, none⟩) 1 1 sl])) (fun _ _ i _ => 1 - (intOf i).toNat)
            case atStart => exact ⟨_, c, L, 0, by omega, rfl, rfl, by omega, HS7⟩
            case round =>
              obtain ⟨A', c', L', m, hm, rfl, rfl, hL', HSm⟩ := hrel
              clear HS7
              by_cases hlm : m < 1
              · obtain ⟨b7, o7, v2, he7, hbl7, hv2, hc7⟩ := (show Rd wr 1 (some ⟨gs, 0, none⟩) 1 (I sl) from HSm.out.rd 1 rfl).at_ hlm
                cases he7
                try rw [Nat.zero_add] at hc7
                have HAD := Lib.hid (show addA np l (sl.take (m + 1)) = addI np (addA np l (sl.take m)) v2 by rw [take_snoc hv2.out]; unfold addA; rw [List.foldl_append]; rfl)
                have m0 : (0 : Int) ≤ (m : Int) := by omega
                have m1 : (m : Int) < 1 := by omega
                obtain ⟨ol, hol⟩ : ∃ ol, ol = addA np l (sl.take m) := ⟨_, rfl⟩
                rw [← hol] at HSm HAD
                clear hol
                by_cases hvn : v2 < (np : Int)
                · cases hct : decide (v2 ∈ ol)
                  · have HCT := Lib.hid hct
                    have HADE := Lib.hid (show addA np l (sl.take (m + 1)) = ol ++ [v2] by rw [HAD.out, addI, if_pos ⟨hvn, by simpa using hct⟩])
                    clear hct
                    go_wp2_with fail
                    refine (contains_eq A' L' c' ol v2 _ (HSm.out.rd 0 rfl) (by omega) false HCT.out).mono ?_
                    rintro e w8 ⟨rfl, rfl⟩
                    have hsz := HSm.out.bel.size
                    go_wp2_with (at_builtin; refine wpList_app _ rfl _ _ 24 rfl w.heap.size 3 i0 (.int .i64 0) 1 8 Try.underlying24 hi hz0 hz1 hz2 rfl (by decide) _ _ _ _ rfl (World.ownsRow.alloc (show Own _ w.heap.size (ti A' L' c' ol) from HSm.out.own 0 _ rfl) _) _ _ _ _ rfl (Rd.one _ _ _) (by simp [Value.oneCell']) (by unfold maxLen; omega) (by omega) (by simp; omega) ?_; intro A9 c9 w9 hown hgrow hat)
                    have HS9 := Lib.hid ((HSm.out.below (below_alloc _ (.cells #[.int .i64 v2] 3))).app 0 (t' := ti A9 (L' + 1) c9 (ol ++ [v2])) rfl hgrow hat (by show World.ownsRow _ _ _ 1 _ _ (I (ol ++ [v2])); rw [I_append]; exact hown))
                    rw [← HADE.out] at HS9
                    clear hown hgrow hat HSm
                    go_wp2
                    go_roundw
                    case rel => exact ⟨A9, c9, L' + 1, m + 1, by omega, by go_num, rfl, by omega, HS9⟩
                    case measure => simp [intOf]; omega
                  · have HCT := Lib.hid hct
                    have HADE := Lib.hid (show addA np l (sl.take (m + 1)) = ol by rw [HAD.out, addI, if_neg (fun h => h.2 (by simpa using hct))])
                    clear hct
                    go_wp2_with fail
                    refine (contains_eq A' L' c' ol v2 _ (HSm.out.rd 0 rfl) (by omega) true HCT.out).mono ?_
                    rintro e w8 ⟨rfl, rfl⟩
                    go_wp2
                    go_roundw
                    case rel => exact ⟨A', c', L', m + 1, by omega, by go_num, rfl, by omega, by rw [HADE.out]; exact HSm⟩
                    case measure => simp [intOf]; omega
                · have HADE := Lib.hid (show addA np l (sl.take (m + 1)) = ol by rw [HAD.out, addI, if_neg (fun h => hvn h.1)])
                  go_wp2
                  go_roundw
                  case rel => exact ⟨A', c', L', m + 1, by omega, by go_num, rfl, by omega, by rw [HADE.out]; exact HSm⟩
                  case measure => simp [intOf]; omega
              · obtain rfl : m = 1 := by omega
                rw [List.take_of_length_le (by rw [HSN.out]; exact Nat.le_refl _)] at HSm
                have HB2 := Lib.hid (show Bfs ps (k + 1) (addA np l sl) by rw [HSL.out]; exact HSTEP.out)
                have hL2 : L' ≤ 16 := by
                  have h5 := HB2.out.len
                  have h6 : (addA np l sl).length = L' := (HSm.out.rd 0 rfl).len
                  omega
                have hk2 : k + 1 ≤ L' := by
                  have h5 := HB2.out.le
                  have h6 : (addA np l sl).length = L' := (HSm.out.rd 0 rfl).len
                  omega
                go_wp2
                go_roundw
                case rel => exact ⟨A', c', L', k + 1, _, rfl, by go_num, hk2, hL2, Lib.hid (Sep.takeL (P := [ti A' L' c' (addA np l sl)]) (M := [_]) HSm.out), HB2⟩
                case measure => simp [intOf]; omega
      · obtain rfl : k = L := by omega
        have hk0 : 0 < k := by
          have := HF.out.has
          rcases l with _ | ⟨y, l⟩
          · cases this
          · simp at hLl; omega
        obtain ⟨g, rfl, hg, _⟩ := own_someS (HS.out.own 0 _ rfl) hk0
        have HB3 := Lib.hid HS.out.bel
        have HO3 := Lib.hid (show Own wr w.heap.size (ti (some ⟨g, 0, none⟩) k c l) from HS.out.own 0 _ rfl)
        have HRL := Lib.hid (show RL true ps (srtL l) from ⟨srt_rise HF.out.nd, fun y => srt_mem.trans ((show RchL ps l from Bfs.done (by rw [hLl]; exact HF.out)).mem y)⟩)
        go_wp2_with fail
        refine (sort_own HO3.out (by omega)).mono ?_
        rintro e w8 ⟨rfl, ho8, hgr8⟩
        have HO8 := Lib.hid ho8
        have HB8 := Lib.hid (below_grown HB3.out hgr8 hg)
        clear ho8 hgr8
        go_wp2
        go_ret2
        exact ⟨_, c, k, _, rfl, HO8.out, HRL.out, hL16, HB8.out⟩
end Go.Proofs.Ytlahpnihnpmgoaa
