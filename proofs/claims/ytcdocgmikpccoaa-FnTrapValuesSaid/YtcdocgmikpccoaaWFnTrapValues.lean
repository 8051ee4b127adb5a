/- The walk of the law FnTrapValues through its contracts. FnTrapValues returns true for every code. No conditions. -/
import Derived.Test.YtcdocgmikpccoaaDy
import Derived.Test.YtcdocgmikpccoaaTvw
import Derived.Test.YtcdocgmikpccoaaRi
import Derived.Deep.CutBlock
import Derived.Test.YtcdocgmikpccoaaOpC
namespace Go.Proofs.Ytcdocgmikpccoaa
open Go.RowKit
set_option linter.unusedVariables false
set_option linter.unusedSimpArgs false

/-- between the parts of the law: what was there; things of the call's own; the code -/
theorem sep_code {w wx : World} {L : List Thing} {A : Option Addr} {n : Nat} (S : Sep w wx L) (hb : Bys w A n) (hn : n ≤ 65536) : Code wx wx.heap.size A n := (hb.keep S.bel).code hn

set_option maxRecDepth 100000 in
set_option maxHeartbeats 8000000 in
theorem walk_FnTrapValues (A : Option Addr) (n ca : Nat) (w : World) (hb : Bys w A n) (hm : n ≤ maxLen) :
    Calls Try.prog 4 #[.slice A n ca] w fun e w' => e = .returned (.bool true) ∧ Below w.heap.size w w' := by
  unfold maxLen at hm
  by_cases hn : n ≤ 65536
  rotate_left
  · have H := Lib.hid hn
    clear hn
    go_enter Try.func4, Try.ntmps4
    go_wp2_with fail
    refine (rBig_eq A n ca _ hm true (by have := H.out; simp; omega)).mono ?_
    rintro e w1 ⟨rfl, rfl⟩
    go_wp2
    go_ret
    exact ⟨rfl, Below.refl _ _⟩
  have HC := Lib.hid hb
  have HN := Lib.hid hn
  clear hb hn
  go_enter Try.func4, Try.ntmps4
  go_wp2_with fail
  refine (rBig_eq A n ca _ hm false (by have := HN.out; simp; omega)).mono ?_
  rintro e w1 ⟨rfl, rfl⟩
  clear hm
  go_wp2_with fail
  refine (DrawLoadValue_any A n ca _ (HC.out.code HN.out)).mono ?_
  rintro e w1 ⟨c, wi, s, r, i, A1, n1, c1, rs, v, rfl, hn1, ho1, hb1⟩
  have hlr : rs.length = n1 := ho1.rd.len
  have HS1 := Lib.hid (((Sep.start w).new hb1 ho1).new (below_alloc _ _) (own_bx w1 35 5 #[.int .i64 c, .int .i64 wi, .bool s, .int .i64 r, .int .i64 i] rfl))
  clear hb1 ho1
  go_upto_region 4 with (fail)
  obtain ⟨w2, hw2⟩ : ∃ w2, w2 = w1.alloc (.cells #[.int .i64 c, .int .i64 wi, .bool s, .int .i64 r, .int .i64 i] 35) := ⟨_, rfl⟩
  obtain ⟨g, hg⟩ : ∃ g, g = w1.heap.size := ⟨_, rfl⟩
  have HS2 : Hid (Sep w w2 [ti A1 n1 c1 rs, bx 35 5 g [.int .i64 c, .int .i64 wi, .bool s, .int .i64 r, .int .i64 i]]) := by rw [hw2, hg]; exact HS1
  rw [← hw2, ← hg]
  clear hw2 hg HS1
  obtain ⟨k, hk⟩ : ∃ k, k = loadOk c wi s r i rs v := ⟨_, rfl⟩
  obtain ⟨L, hL⟩ : ∃ L, L = selL k (loadL wi r rs v) := ⟨_, rfl⟩
  have hll : L.length ≤ 4 := by
    rw [hL]
    unfold selL
    split
    · simp [loadL]; omega
    · simp
  obtain ⟨m, hmL⟩ : ∃ m, m = L.length := ⟨_, rfl⟩
  rw [← hmL] at hll
  have HM := Lib.hid hmL.symm
  have HK := Lib.hid hk.symm
  have HL := Lib.hid hL.symm
  have HLR := Lib.hid hlr
  clear hk hL hlr hmL
  have C := own_box (HS2.out.own 1 _ rfl)
  go_wp2_with fail
  refine (i_LoadValue_b HK.out HL.out HM.out A1 n1 c1 _ (HS2.out.rd 0 rfl) (by omega)).mono ?_
  rintro e w3 ⟨A3, c3, rfl, ho3, hb3⟩
  have HS3 := Lib.hid (HS2.out.new hb3 ho3)
  clear hb3 ho3 HS2 C
  have C := own_box (HS3.out.own 1 _ rfl)
  go_wp2_with fail
  refine (s_LoadValue_b HK.out HL.out HM.out A1 n1 c1 _ (HS3.out.rd 0 rfl) (by omega)).mono ?_
  rintro e w4 ⟨A4, c4, rfl, ho4, hb4⟩
  have HS4 := Lib.hid (HS3.out.new hb4 ho4)
  clear hb4 ho4 HS3 C
  go_wp2_with fail
  refine (rInts_same A3 A4 m c3 c4 L _ (HS4.out.rd 2 rfl) (HS4.out.rd 3 rfl) (by omega)).mono ?_
  rintro e w5 ⟨rfl, hb5⟩
  have HS5 := Lib.hid (HS4.out.below hb5)
  clear hb5 HS4
  go_upto_if 65 with (fail)
  go_cut [10, 11, 12, 13] from 65 to 108 (fun _ _ _ _ wx => Hid (Below w.heap.size w wx))
  case first =>
    cases k
    · go_wp2
      go_meet
      exact Lib.hid HS5.out.bel
    · obtain ⟨rfl, rfl, h4, hv0, rn, rfl, hrn, hso, hsv, hLL⟩ := load_yes HK.out
      have hL2 : L = rs.set rn (lowI v wi) := by rw [← HL.out]; exact hLL
      have hle := lowI_le (wi := wi) hv0
      obtain ⟨y, hy⟩ : ∃ y, y = lowI v wi := ⟨_, rfl⟩
      rw [← hy] at hso hsv hL2 hle
      have hm4 : m = 4 := by rw [← HM.out, hL2, List.length_set, h4]
      have hn4 : n1 = 4 := by rw [← HLR.out, h4]
      subst hm4 hn4
      have hly : L[rn]? = some y := by rw [hL2, List.getElem?_set_self (by omega)]
      have hlo : ∀ j, j ≠ rn → L[j]? = rs[j]? := fun j hj => by rw [hL2, List.getElem?_set_ne (Ne.symm hj)]
      have HLO := Lib.hid hlo
      have HSO := Lib.hid (show storedOk 3 wi true (rn : Int) i L = true by rw [hL2]; exact hso)
      have HSV := Lib.hid (show selI true (storedV wi (rn : Int) L) = y by rw [hL2]; exact hsv)
      have hA3 := own_someS (HS5.out.own 2 _ rfl) (by show 0 < 4; omega)
      obtain ⟨gA, rfl, _, hgl⟩ := hA3
      have HS6 := Lib.hid (HS5.out.new (below_alloc _ _) (own_bx _ 35 5 #[.int .i64 3, .int .i64 wi, .bool true, .int .i64 (rn : Int), .int .i64 i] rfl))
      have C := own_box (HS5.out.own 1 _ rfl)
      have HLY := Lib.hid hly
      clear hso hsv hv0 hLL hy h4 hL2 hlo hly hll hn1 hgl
      go_wp2_with fail
      refine (i_StoredValue_b HSO.out HSV.out (some ⟨gA, 0, none⟩) 4 c3 _ (HS6.out.rd 2 rfl) (by omega)).mono ?_
      rintro e w6 ⟨rfl, hb6⟩
      have HS7 := Lib.hid (HS6.out.below hb6)
      clear hb6 HS6 C
      have C := own_box (HS7.out.own 1 _ rfl)
      have cA : w6.cell? ⟨gA, rn, none⟩ = some (.int .i64 y) := by
        rw [World.ownsRow.cellAt (HS7.out.own 2 _ rfl) rn (by show rn < 4 * 1; omega)]
        simp [I, HLY.out]
      have k0 : (0 : Int) ≤ (rn : Int) := by omega
      have k1 : (rn : Int) < 4 := by omega
      go_wp2
      go_loopw [13] (fun x wr => ∃ j : Nat, j ≤ 4 ∧ x = .int .i64 j ∧ Hid (Below w6.heap.size w6 wr)) (fun x _ => 4 - (intOf x).toNat)
      case atStart => exact ⟨0, by omega, rfl, Lib.hid (Below.refl _ _)⟩
      case round =>
        obtain ⟨j, hj, rfl, HB⟩ := hrel
        clear C cA
        have HS8 := Lib.hid (HS7.out.below HB.out)
        have C := own_box (HS8.out.own 1 _ rfl)
        by_cases hlt : j < 4
        · obtain ⟨b, o, x, hAe, hbl, hxk, hc⟩ := (show Rd wr 1 (some ⟨gA, 0, none⟩) 4 (I L) from HS8.out.rd 2 rfl).at_ hlt
          cases hAe
          rw [Nat.zero_add] at hc
          obtain ⟨b', o', x', rfl, hbl', hxk', hc'⟩ := (show Rd wr 1 A1 4 (I rs) from HS8.out.rd 0 rfl).at_ hlt
          have h0 : (0 : Int) ≤ (j : Int) := by omega
          have h1 : (j : Int) < 4 := by omega
          by_cases he : j = rn
          · subst he
            clear hc hc'
            have t1 : ((j : Int) != (j : Int)) = false := by simp
            go_wp2
            go_quiet (fail)
            go_wp2
            go_roundw
            case rel => exact ⟨j + 1, by omega, by go_num, Lib.hid (below_drewN HB.out _)⟩
            case measure => simp [intOf]; omega
          · have hxx : x = x' := by
              have e1 := HLO.out j he
              rw [hxk.out, hxk'.out] at e1
              exact Option.some.inj e1
            subst hxx
            have t1 : ((j : Int) != (rn : Int)) = true := by simp; omega
            clear he
            go_wp2
            go_quiet (fail)
            go_wp2
            go_roundw
            case rel => exact ⟨j + 1, by omega, by go_num, Lib.hid (below_drewN HB.out _)⟩
            case measure => simp [intOf]; omega
        · obtain rfl : j = 4 := by omega
          go_wp2
          go_meet
          exact Lib.hid HS8.out.bel
  case rest =>
    have HB := hcut
    clear hcut HS5
    go_wp2_with fail
    refine (DrawStoredValue_any A n ca _ ((HC.out.keep HB.out).code HN.out)).mono ?_
    rintro e w7 ⟨c2, wi2, s2, r2, i2, A7, n7, c7, xs, rfl, hn7, ho7, hb7⟩
    have HS7 := Lib.hid (((Sep.start wc).new hb7 ho7).new (below_alloc _ _) (own_bx w7 35 5 #[.int .i64 c2, .int .i64 wi2, .bool s2, .int .i64 r2, .int .i64 i2] rfl))
    clear hb7 ho7
    obtain ⟨b2, hb2⟩ : ∃ b2, b2 = storedOk c2 wi2 s2 r2 i2 xs := ⟨_, rfl⟩
    obtain ⟨q2, hq2⟩ : ∃ q2, q2 = selI b2 (storedV wi2 r2 xs) := ⟨_, rfl⟩
    have HB2 := Lib.hid hb2.symm
    have HQ2 := Lib.hid hq2.symm
    clear hb2 hq2
    have C := own_box (HS7.out.own 1 _ rfl)
    go_wp2_with fail
    refine (i_StoredValue_b HB2.out HQ2.out A7 n7 c7 _ (HS7.out.rd 0 rfl) (by omega)).mono ?_
    rintro e w8 ⟨rfl, hb8⟩
    have HS8 := Lib.hid (HS7.out.below hb8)
    clear hb8 HS7 C
    have C := own_box (HS8.out.own 1 _ rfl)
    go_wp2_with fail
    refine (s_StoredValue_b HB2.out HQ2.out A7 n7 c7 _ (HS8.out.rd 0 rfl) (by omega)).mono ?_
    rintro e w9 ⟨rfl, hb9⟩
    have HB9 := Lib.hid (below_next HB.out (HS8.out.below hb9).bel)
    clear hb9 HS8 C HB
    go_wp2_with fail
    refine (DrawFaultTrap_any A n ca _ ((HC.out.keep HB9.out).code HN.out)).mono ?_
    rintro e w10 ⟨p, wr, rfl, hb10⟩
    have HB10 := Lib.hid (below_next HB9.out hb10)
    clear hb10 HB9
    obtain ⟨f, hf⟩ : ∃ f, f = trapB 1 0 wr 0 p := ⟨_, rfl⟩
    have HF := Lib.hid hf.symm
    clear hf
    go_wp2_with fail
    refine (i_FaultTrap_b HF.out _).mono ?_
    rintro e w11 ⟨rfl, hb11⟩
    have HB11 := Lib.hid (below_next HB10.out hb11)
    clear hb11 HB10
    have HX11 := Lib.hid (Box.new w11 35 (trA (selI f 1) (selI f 0) (selB f wr) (selI f 0) (selI f p)))
    go_wp2_with fail
    refine (s_FaultTrap_b HF.out _).mono ?_
    rintro e w12 ⟨rfl, hb12⟩
    have HB12 := Lib.hid (below_next HB11.out (below_next (below_alloc _ _) hb12))
    have HX12 := Lib.hid ((HX11.out.keep hb12).alloc (.cells (trA (selI f 1) (selI f 0) (selB f wr) (selI f 0) (selI f p)) 35))
    have HY12 := Lib.hid (Box.new w12 35 (trA (selI f 1) (selI f 0) (selB f wr) (selI f 0) (selI f p)))
    have HW12 := Lib.hid (below_next HB12.out (below_alloc w12 (.cells (trA (selI f 1) (selI f 0) (selB f wr) (selI f 0) (selI f p)) 35)))
    clear hb12 HB11 HX11 HB12
    have CX := HX12.out.cell
    have CY := HY12.out.cell
    go_upto_region 27 with (fail)
    go_cut [166] from 151 to 165 (fun t wx => t = .bool false ∧ Hid (Below w.heap.size w wx))
    case first =>
      cases f
      · go_wp2
        go_meet
        exact ⟨rfl, HW12⟩
      · go_wp2_with fail
        refine (i_IsTrap_sel HF.out _).mono ?_
        rintro e w13 ⟨rfl, hb13⟩
        have HW13 := Lib.hid (below_next HW12.out hb13)
        clear hb13
        go_wp2
        go_meet
        exact ⟨rfl, HW13⟩
    case rest =>
      obtain ⟨rfl, HB14⟩ := hcut
      clear HX12 HY12 HW12 CX CY
      go_wp2_with fail
      refine (DrawDeviceTrap_any A n ca _ ((HC.out.keep HB14.out).code HN.out)).mono ?_
      rintro e w15 ⟨pp, pq, pr, pb, rfl, hb15⟩
      have HB15 := Lib.hid (below_next HB14.out hb15)
      clear hb15 HB14
      obtain ⟨d, hd⟩ : ∃ d, d = trapB 3 pq pb pr pp := ⟨_, rfl⟩
      have HD := Lib.hid hd.symm
      clear hd
      go_wp2_with fail
      refine (i_DeviceTrap_b HD.out _).mono ?_
      rintro e w16 ⟨rfl, hb16⟩
      have HB16 := Lib.hid (below_next HB15.out hb16)
      have HX16 := Lib.hid (Box.new w16 35 (trA (selI d 3) (selI d pq) (selB d pb) (selI d pr) (selI d pp)))
      clear hb16 HB15
      go_wp2_with fail
      refine (s_DeviceTrap_b HD.out _).mono ?_
      rintro e w17 ⟨rfl, hb17⟩
      have HX17 := Lib.hid ((HX16.out.keep hb17).alloc (.cells (trA (selI d 3) (selI d pq) (selB d pb) (selI d pr) (selI d pp)) 35))
      have HY17 := Lib.hid (Box.new w17 35 (trA (selI d 3) (selI d pq) (selB d pb) (selI d pr) (selI d pp)))
      have HW17 := Lib.hid (below_next (below_next HB16.out (below_next (below_alloc _ _) hb17)) (below_alloc w17 (.cells (trA (selI d 3) (selI d pq) (selB d pb) (selI d pr) (selI d pp)) 35)))
      clear hb17 HB16 HX16
      have CX := HX17.out.cell
      have CY := HY17.out.cell
      go_wp2
      go_ret
      exact ⟨by simp, HW17.out⟩
end Go.Proofs.Ytcdocgmikpccoaa
