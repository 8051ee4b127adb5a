/- The walk of the law FnGuestRuns through its contracts. FnGuestRuns returns true for every code. No conditions. -/
import Derived.Test.YtlahpnihnpmgoaaGh
import Derived.Test.YtlahpnihnpmgoaaGq
import Derived.Deep.CutBlock
import Derived.Test.YtlahpnihnpmgoaaOpC
namespace Go.Proofs.Ytlahpnihnpmgoaa
open Go.RowKit
set_option linter.unusedVariables false
set_option linter.unusedSimpArgs false

/-- what stays: the program -/
structure Gm (w wx : World) (Ap : Option Addr) (np : Nat) (ps : List RInstruction) : Prop where
  bel : Below w.heap.size w wx
  rp : Rd wx 4 Ap np (J cInstruction ps)
theorem Gm.keep {w wx wy : World} {Ap : Option Addr} {np : Nat} {ps : List RInstruction} (S : Gm w wx Ap np ps) (hb : Below wx.heap.size wx wy) : Gm w wy Ap np ps := ⟨below_next S.bel hb, S.rp.keep hb⟩
/-- a variable of registers -/
structure Rv (wx : World) (g : Nat) (A : Option Addr) (n c : Nat) (rs : List Int) (a : Int) (z s : Bool) : Prop where
  box : Box wx g 37 #[.slice A n c, .int .i64 a, .bool z, .bool s]
  rd : Rd wx 1 A n (I rs)
section
variable {wx wy : World} {g : Nat} {A : Option Addr} {n c : Nat} {rs : List Int} {a : Int} {z s : Bool}
theorem Rv.keep (S : Rv wx g A n c rs a z s) (hb : Below wx.heap.size wx wy) : Rv wy g A n c rs a z s := ⟨S.box.keep hb, S.rd.keep hb⟩
theorem Rv.new (h : Rd wx 1 A n (I rs)) (a : Int) (z s : Bool) : Rv (wx.alloc (.cells #[.slice A n c, .int .i64 a, .bool z, .bool s] 37)) wx.heap.size A n c rs a z s := ⟨Box.new _ _ _, h.keep (below_alloc _ _)⟩
end
/-- inside the loop: the guest of now, the place in its run -/
structure Nw (w wr : World) (A : Option Addr) (n c : Nat) (G : GS) : Prop where
  bel : Below w.heap.size w wr
  rv : Rv wr w.heap.size A n c G.rs G.a G.z G.s
  le : n ≤ 4
theorem Nw.put {w wr w1 : World} {A A2 : Option Addr} {n c n2 c2 : Nat} {G G2 : GS} (S : Nw w wr A n c G) (hb : Below wr.heap.size wr w1) (ho : Own w1 wr.heap.size (ti A2 n2 c2 G2.rs)) (hn : n2 ≤ 4) (o : Obj) :
    Nw w (((((w1.alloc o).setCell ⟨w.heap.size, 0, none⟩ (.slice A2 n2 c2)).setCell ⟨w.heap.size, 1, none⟩ (.int .i64 G2.a)).setCell ⟨w.heap.size, 2, none⟩ (.bool G2.z)).setCell ⟨w.heap.size, 3, none⟩ (.bool G2.s)) A2 n2 c2 G2 := by
  have h1 := (below_next (below_next S.bel hb) (below_alloc w1 o))
  have hx := (S.rv.box.keep hb).alloc o
  have hlt := S.rv.box.lt
  have hw := own_belG ho (below_alloc w1 o)
  exact ⟨(((h1.setCell (Nat.le_refl _) _).setCell (Nat.le_refl _) _).setCell (Nat.le_refl _) _).setCell (Nat.le_refl _) _,
    ⟨(((hx.put 0 _).put 1 _).put 2 _).put 3 _, (own_putG (own_putG (own_putG (own_putG hw hlt _) hlt _) hlt _) hlt _).rd⟩, hn⟩
theorem run_any (ps : List RInstruction) (rs : List Int) (a : Int) (z s : Bool) (m : Int) :
    ∃ t : Nat, rnN ps rs a z s m = t ∧ (rnB ps rs a m = true → (t : Int) ≤ m ∧ rnR ps rs a z s m = itF ps t ⟨rs, a, z, s⟩ ∧ (∀ k, k < t → (itF ps k ⟨rs, a, z, s⟩).s = false) ∧ ((t : Int) < m → (itF ps t ⟨rs, a, z, s⟩).s = true) ∧ regB ps rs a = true) := by
  cases h : rnB ps rs a m
  · exact ⟨0, by unfold rnN; rw [if_neg (by simp [h])]; rfl, fun h => by cases h⟩
  · obtain ⟨t, h1, h2, h3, h4, h5, h6⟩ := run_told (z := z) (s := s) h
    exact ⟨t, h2, fun _ => ⟨h1, h3, h4, h5, h6⟩⟩

set_option maxRecDepth 100000 in
set_option maxHeartbeats 16000000 in
theorem walk_FnGuestRuns (A : Option Addr) (n ca : Nat) (w : World) (hb : Bys w A n) (hm : n ≤ maxLen) :
    Calls Try.prog 4 #[.slice A n ca] w fun e w' => e = .returned (.bool true) ∧ Below w.heap.size w w' := by
  unfold maxLen at hm
  by_cases hn : n ≤ 65536
  rotate_left
  · have H := Lib.hid hn
    clear hn
    go_enter Try.func4, Try.ntmps4
    go_wp2_with fail
    refine (rBig_eq A n ca _ hm true (by have := H.out; simp; omega)).mono ?_
    rintro e w1 ⟨rfl, rfl⟩
    go_wp2
    go_ret
    exact ⟨rfl, Below.refl _ _⟩
  have HC := Lib.hid hb
  have HN := Lib.hid hn
  clear hb hn
  go_enter Try.func4, Try.ntmps4
  go_wp2_with fail
  refine (rBig_eq A n ca _ hm false (by have := HN.out; simp; omega)).mono ?_
  rintro e w1 ⟨rfl, rfl⟩
  clear hm
  go_wp2_with fail
  refine (DrawRunGuest_any A n ca _ (HC.out.code HN.out)).mono ?_
  rintro e w1 ⟨Ap, np, cp, ps, A3, n3, c3, rs, a, z, s, m, rfl, hnp, hn3, hm, hop, how, hb1⟩
  go_upto_region 4 with (fail)
  obtain ⟨w2, hw2⟩ : ∃ w2, w2 = w1.alloc (.cells #[.slice A3 n3 c3, .int .i64 a, .bool z, .bool s] 37) := ⟨_, rfl⟩
  obtain ⟨g4, hg4⟩ : ∃ g, g = w1.heap.size := ⟨_, rfl⟩
  have HM2 := Lib.hid (show Gm w w2 Ap np ps by rw [hw2]; exact (⟨hb1, hop.rd⟩ : Gm w w1 Ap np ps).keep (below_alloc _ _))
  have HV2 := Lib.hid (show Rv w2 g4 A3 n3 c3 rs a z s by rw [hw2, hg4]; exact Rv.new how.rd a z s)
  rw [← hw2, ← hg4]
  clear hw2 hg4 hb1 hop how
  obtain ⟨t, ht, hrun⟩ := run_any ps rs a z s m
  obtain ⟨b, hbb⟩ : ∃ b, b = rnB ps rs a m := ⟨_, rfl⟩
  have hrl := rnR_len ps rs a z s m
  obtain ⟨⟨rg, ga, gz, gs⟩, hG⟩ : ∃ G, G = rnR ps rs a z s m := ⟨_, rfl⟩
  obtain ⟨L, hL⟩ : ∃ L, L = rg.length := ⟨_, rfl⟩
  have hL4 : L ≤ 4 := by rw [hL]; rw [← hG] at hrl; exact hrl
  rw [← hbb] at hrun
  have HT := Lib.hid ht
  have HRUN := Lib.hid hrun
  have HB := Lib.hid hbb.symm
  have HG := Lib.hid hG.symm
  have HL := Lib.hid hL.symm
  clear ht hrun hbb hG hL hrl
  have C4 := HV2.out.box.cell
  go_wp2_with fail
  refine (i_RunGuest_b HB.out HT.out HG.out HL.out Ap np cp A3 n3 c3 _ HM2.out.rp HV2.out.rd (by omega) (by omega)).mono ?_
  rintro e w3 ⟨A6, c6, rfl, ho3, hb3⟩
  go_upto_region 5 with (fail)
  obtain ⟨w4, hw4⟩ : ∃ w4, w4 = w3.alloc (.cells #[.slice A6 L c6, .int .i64 ga, .bool gz, .bool gs] 37) := ⟨_, rfl⟩
  obtain ⟨g6, hg6⟩ : ∃ g, g = w3.heap.size := ⟨_, rfl⟩
  have HM4 := Lib.hid (show Gm w w4 Ap np ps by rw [hw4]; exact (HM2.out.keep hb3).keep (below_alloc _ _))
  have HV4 := Lib.hid (show Rv w4 g4 A3 n3 c3 rs a z s by rw [hw4]; exact (HV2.out.keep hb3).keep (below_alloc _ _))
  have HO4 := Lib.hid (show Rv w4 g6 A6 L c6 rg ga gz gs by rw [hw4, hg6]; exact Rv.new ho3.rd ga gz gs)
  rw [← hw4, ← hg6]
  clear hw4 hg6 hb3 ho3 HM2 HV2 C4
  have C4 := HV4.out.box.cell
  go_wp2_with fail
  refine (s_RunGuest_b HB.out HT.out HG.out HL.out Ap np cp A3 n3 c3 _ HM4.out.rp HV4.out.rd (by omega) (by omega)).mono ?_
  rintro e w5 ⟨A9, c9, rfl, ho5, hb5⟩
  go_upto_region 6 with (fail)
  obtain ⟨w6, hw6⟩ : ∃ w6, w6 = w5.alloc (.cells #[.slice A9 L c9, .int .i64 ga, .bool gz, .bool gs] 37) := ⟨_, rfl⟩
  obtain ⟨g9, hg9⟩ : ∃ g, g = w5.heap.size := ⟨_, rfl⟩
  have HM6 := Lib.hid (show Gm w w6 Ap np ps by rw [hw6]; exact (HM4.out.keep hb5).keep (below_alloc _ _))
  have HV6 := Lib.hid (show Rv w6 g4 A3 n3 c3 rs a z s by rw [hw6]; exact (HV4.out.keep hb5).keep (below_alloc _ _))
  have HO6 := Lib.hid (show Rv w6 g6 A6 L c6 rg ga gz gs by rw [hw6]; exact (HO4.out.keep hb5).keep (below_alloc _ _))
  have HW6 := Lib.hid (show Rv w6 g9 A9 L c9 rg ga gz gs by rw [hw6, hg9]; exact Rv.new ho5.rd ga gz gs)
  rw [← hw6, ← hg9]
  clear hw6 hg9 hb5 ho5 HM4 HV4 HO4 C4
  have C6 := HO6.out.box.cell
  have C9 := HW6.out.box.cell
  have t1 : (b != b) = false := by simp
  have t2 : ((t : Int) != (t : Int)) = false := by simp
  go_wp2_with fail
  refine (rRegisters_same A6 A9 L c6 c9 rg ga gz gs _ HO6.out.rd HW6.out.rd (by omega)).mono ?_
  rintro e w7 ⟨rfl, hb7⟩
  have HM7 := Lib.hid (HM6.out.keep hb7)
  have HV7 := Lib.hid (HV6.out.keep hb7)
  have HO7 := Lib.hid (HO6.out.keep hb7)
  clear hb7 HM6 HV6 HO6 HW6 C6 C9 t1 t2
  go_upto_if 71 with (fail)
  go_cut [12, 13, 14, 15, 16, 17, 18, 19, 20, 21] from 71 to 138 (fun _ _ _ _ _ _ _ _ _ _ wx => Hid (Below w.heap.size w wx))
  case first =>
    cases b
    · go_wp2
      go_meet
      exact Lib.hid HM7.out.bel
    · obtain ⟨htm, hrun, hgo, hend, hreg⟩ := HRUN.out rfl
      have HGO := Lib.hid hgo
      have HREG := Lib.hid hreg
      have hGG : itF ps t ⟨rs, a, z, s⟩ = ⟨rg, ga, gz, gs⟩ := hrun.symm.trans HG.out
      rw [hGG] at hend
      have HEND := Lib.hid (show (t : Int) < m → gs = true from hend)
      have HGG := Lib.hid hGG
      clear hgo hreg hGG hrun hend HRUN
      have C4 := HV7.out.box.cell
      go_upto_region 10 with (fail)
      obtain ⟨w8, hw8⟩ : ∃ w8, w8 = w7.alloc (.cells #[.slice A3 n3 c3, .int .i64 a, .bool z, .bool s] 37) := ⟨_, rfl⟩
      obtain ⟨g12, hg12⟩ : ∃ g, g = w7.heap.size := ⟨_, rfl⟩
      have HN8 := Lib.hid (show Nw w7 w8 A3 n3 c3 (itF ps 0 ⟨rs, a, z, s⟩) by rw [hw8]; exact ⟨below_alloc _ _, Rv.new HV7.out.rd a z s, hn3⟩)
      have HG12 := Lib.hid hg12
      rw [← hw8, ← hg12]
      clear hw8 hg12 C4
      go_wp2
      go_loopw [13, 14, 15] (fun i _ _ wr => ∃ (k : Nat) (A' : Option Addr) (n' c' : Nat), k ≤ t ∧ i = .int .i64 k ∧ Hid (Nw w7 wr A' n' c' (itF ps k ⟨rs, a, z, s⟩))) (fun i _ _ _ => t - (intOf i).toNat)
      case atStart => exact ⟨0, A3, n3, c3, Nat.zero_le _, rfl, HN8⟩
      case round =>
        obtain ⟨k, A12, n12, c12, hk, rfl, HNr⟩ := hrel
        clear HN8
        by_cases hlt : k < t
        · have h1 : (k : Int) < (t : Int) := by omega
          have HR := Lib.hid (itF_good (g := ⟨rs, a, z, s⟩) HREG.out k)
          have HS := Lib.hid (HGO.out k hlt)
          have hst : stR ps (itF ps k ⟨rs, a, z, s⟩).rs (itF ps k ⟨rs, a, z, s⟩).a (itF ps k ⟨rs, a, z, s⟩).z (itF ps k ⟨rs, a, z, s⟩).s = itF ps (k + 1) ⟨rs, a, z, s⟩ := by
            unfold stR
            rw [HR.out, HS.out]
            rfl
          have hn12 := HNr.out.le
          have hl1 := stR_len ps (itF ps k ⟨rs, a, z, s⟩).rs (itF ps k ⟨rs, a, z, s⟩).a (itF ps k ⟨rs, a, z, s⟩).z (itF ps k ⟨rs, a, z, s⟩).s
          rw [hst] at hl1
          have hl2 := HNr.out.rv.rd.len
          have hbt : (regB ps (itF ps k ⟨rs, a, z, s⟩).rs (itF ps k ⟨rs, a, z, s⟩).a && !(itF ps k ⟨rs, a, z, s⟩).s) = true := by rw [HR.out, HS.out]; rfl
          obtain ⟨G1, hG1⟩ : ∃ G, G = itF ps (k + 1) ⟨rs, a, z, s⟩ := ⟨_, rfl⟩
          rw [← hG1] at hst hl1
          have HG1 := Lib.hid hG1
          clear hG1
          obtain ⟨G0, hG0⟩ : ∃ G, G = itF ps k ⟨rs, a, z, s⟩ := ⟨_, rfl⟩
          rw [← hG0] at hst hl1 hl2 hbt HNr
          clear hG0 HR HS
          obtain ⟨r0, a0, z0, s0⟩ := G0
          obtain ⟨r1, a1, z1, s1⟩ := G1
          obtain ⟨L1, hL1⟩ : ∃ L, L = r1.length := ⟨_, rfl⟩
          have hL14 : L1 ≤ 4 := by have h3 : r1.length ≤ r0.length := hl1; have h4 : r0.length = n12 := hl2; omega
          have HST := Lib.hid hst
          have HBT := Lib.hid hbt
          have HL1 := Lib.hid hL1.symm
          clear hst hbt hl1 hl2 hL1
          have C12 : ∀ i, wr.cell? ⟨g12, i, none⟩ = #[.slice A12 n12 c12, .int .i64 a0, .bool z0, .bool s0][i]? := by rw [HG12.out]; exact HNr.out.rv.box.cell
          go_wp2_with fail
          refine (i_StepGuest_b HBT.out HST.out HL1.out Ap np cp A12 n12 c12 _ (HM7.out.keep HNr.out.bel).rp HNr.out.rv.rd (by omega) (by omega)).mono ?_
          rintro e w13 ⟨A13, c13, rfl, ho13, hb13⟩
          have HN14 := Lib.hid (HNr.out.put (G2 := ⟨r1, a1, z1, s1⟩) hb13 ho13 hL14 (.cells #[.slice A13 L1 c13, .int .i64 a1, .bool z1, .bool s1] 37))
          have HX13 := Lib.hid ((HNr.out.rv.box.keep hb13).alloc (.cells #[.slice A13 L1 c13, .int .i64 a1, .bool z1, .bool s1] 37))
          rw [← HG12.out] at HN14 HX13
          clear C12 ho13 hb13
          go_upto_region 14 with (fail)
          have HX14 := Lib.hid (Box.new w13 37 #[.slice A13 L1 c13, .int .i64 a1, .bool z1, .bool s1])
          obtain ⟨w14, hw14⟩ : ∃ w14, w14 = w13.alloc (.cells #[.slice A13 L1 c13, .int .i64 a1, .bool z1, .bool s1] 37) := ⟨_, rfl⟩
          obtain ⟨g14, hg14⟩ : ∃ g, g = w13.heap.size := ⟨_, rfl⟩
          rw [← hw14] at HX13 HX14 HN14
          rw [← hg14] at HX14
          rw [← hw14, ← hg14]
          clear hw14 hg14
          have C12 := HX13.out.cell
          have F12 := HX13.out.free
          have C14 := HX14.out.cell
          go_wp2
          go_roundw
          case rel => exact ⟨k + 1, A13, L1, c13, by omega, by go_num, by rw [← HG1.out]; exact HN14⟩
          case measure => simp [intOf]; omega
        · have hkt : k = t := by omega
          subst hkt
          have hn12 := HNr.out.le
          have hl12 := HNr.out.rv.rd.len
          rw [HGG.out] at HNr hl12
          have hl12' : n12 = L := by have h3 := HL.out; exact hl12.symm.trans h3
          subst hl12'
          have HOr := Lib.hid (HO7.out.keep HNr.out.bel)
          have HVr := Lib.hid (HV7.out.keep HNr.out.bel)
          have HMr := Lib.hid (HM7.out.keep HNr.out.bel)
          have HRG := Lib.hid (show regB ps rg ga = true by
            have h3 := itF_good (g := ⟨rs, a, z, s⟩) HREG.out k
            rw [HGG.out] at h3
            exact h3)
          clear hl12
          go_upto_region 17 with (fail)
          go_cut [106] from 87 to 105 (fun x wx => x = .bool false ∧ Hid (Below wr.heap.size wr wx))
          case first =>
            have C12 : ∀ i, wr.cell? ⟨g12, i, none⟩ = #[.slice A12 n12 c12, .int .i64 ga, .bool gz, .bool gs][i]? := by rw [HG12.out]; exact HNr.out.rv.box.cell
            have C6 := HOr.out.box.cell
            go_wp2_with fail
            refine (rRegisters_same A12 A6 n12 c12 c6 rg ga gz gs _ HNr.out.rv.rd HOr.out.rd (by omega)).mono ?_
            rintro e w15 ⟨rfl, hb15⟩
            have HO15 := Lib.hid (HOr.out.keep hb15)
            have HM15 := Lib.hid (HMr.out.keep hb15)
            have HB15 := Lib.hid hb15
            clear C12 C6 hb15
            have C6 := HO15.out.box.cell
            by_cases hkm : (k : Int) < m
            · have hgs := HEND.out hkm
              subst hgs
              go_wp2_with fail
              refine (i_AreRegisters_r HRG.out HM15.out.rp HO15.out.rd (by omega) (by omega)).mono ?_
              rintro e w16 ⟨rfl, hb16⟩
              have HB16 := Lib.hid (below_next HB15.out hb16)
              clear hb16
              go_wp2
              go_meet
              exact ⟨rfl, HB16⟩
            · go_wp2_with fail
              refine (i_AreRegisters_r HRG.out HM15.out.rp HO15.out.rd (by omega) (by omega)).mono ?_
              rintro e w16 ⟨rfl, hb16⟩
              have HB16 := Lib.hid (below_next HB15.out hb16)
              clear hb16
              go_wp2
              go_meet
              exact ⟨rfl, HB16⟩
          case rest =>
            obtain ⟨rfl, HB17⟩ := hcut
            have HM17 := Lib.hid (HMr.out.keep HB17.out)
            have HV17 := Lib.hid (HVr.out.keep HB17.out)
            clear HNr HOr HVr HMr HB17
            have HPB := Lib.hid (regB_prog HREG.out)
            obtain ⟨o, ho, hol⟩ := rl_exists ps
            rw [HPB.out] at ho
            obtain ⟨Lo, hLo⟩ : ∃ x, x = o.length := ⟨_, rfl⟩
            rw [← hLo] at hol
            have HLO := Lib.hid hLo.symm
            have HRL := Lib.hid ho
            clear hLo ho
            go_wp2_with fail
            refine (i_ReachedBy_b HPB.out HRL.out HLO.out Ap np cp _ HM17.out.rp (by omega)).mono ?_
            rintro e w18 ⟨A18, c18, rfl, ho18, hb18⟩
            have HM18 := Lib.hid (HM17.out.keep hb18)
            have HV18 := Lib.hid (HV17.out.keep hb18)
            have HR18 := Lib.hid (show Rd w18 1 A18 Lo (I o) from ho18.rd)
            clear hb18 ho18 HM17 HV17
            have C4 := HV18.out.box.cell
            go_upto_region 23 with (fail)
            obtain ⟨w19, hw19⟩ : ∃ w19, w19 = w18.alloc (.cells #[.slice A3 n3 c3, .int .i64 0, .bool z, .bool false] 37) := ⟨_, rfl⟩
            obtain ⟨g18, hg18⟩ : ∃ g, g = w18.heap.size := ⟨_, rfl⟩
            have HM19 := Lib.hid (show Gm w w19 Ap np ps by rw [hw19]; exact HM18.out.keep (below_alloc _ _))
            have HV19 := Lib.hid (show Rv w19 g18 A3 n3 c3 rs 0 z false by rw [hw19, hg18]; exact Rv.new HV18.out.rd 0 z false)
            have HR19 := Lib.hid (show Rd w19 1 A18 Lo (I o) by rw [hw19]; exact HR18.out.keep (below_alloc _ _))
            rw [← hw19, ← hg18]
            clear hw19 hg18 HM18 HV18 HR18 C4
            have hb0 : rnB ps rs 0 20 = true := by unfold rnB; rw [regB_zero HREG.out]; rfl
            obtain ⟨t2, ht2, hrun2⟩ := run_any ps rs 0 z false 20
            obtain ⟨htm2, hr2, -, -, hreg0⟩ := hrun2 hb0
            have hrl2 := rnR_len ps rs 0 z false 20
            have hrch := itF_rch (g := ⟨rs, 0, z, false⟩) hreg0 .zero t2
            rw [← hr2] at hrch
            obtain ⟨G2, hG2⟩ : ∃ G, G = rnR ps rs 0 z false 20 := ⟨_, rfl⟩
            rw [← hG2] at hrch hrl2
            obtain ⟨r2, a2, z2, s2⟩ := G2
            obtain ⟨L2, hL2⟩ : ∃ L, L = r2.length := ⟨_, rfl⟩
            have HHAS := Lib.hid (show decide (a2 ∈ o) = true by rw [decide_eq_true_eq]; exact (HRL.out.2 a2).2 hrch)
            have HB0 := Lib.hid hb0
            have HT2 := Lib.hid ht2
            have HG2 := Lib.hid hG2.symm
            have HL2 := Lib.hid hL2.symm
            have hno : ¬ (20 : Int) < (t2 : Int) := by omega
            clear hb0 ht2 hrun2 hr2 hreg0 hrl2 hrch hG2 hL2 htm2
            have C18 := HV19.out.box.cell
            go_wp2_with fail
            refine (i_RunGuest_b HB0.out HT2.out HG2.out HL2.out Ap np cp A3 n3 c3 _ HM19.out.rp HV19.out.rd (by omega) (by omega)).mono ?_
            rintro e w20 ⟨A20, c20, rfl, ho20, hb20⟩
            go_upto_region 24 with (fail)
            obtain ⟨w21, hw21⟩ : ∃ w21, w21 = w20.alloc (.cells #[.slice A20 L2 c20, .int .i64 a2, .bool z2, .bool s2] 37) := ⟨_, rfl⟩
            obtain ⟨g19, hg19⟩ : ∃ g, g = w20.heap.size := ⟨_, rfl⟩
            have HM21 := Lib.hid (show Gm w w21 Ap np ps by rw [hw21]; exact (HM19.out.keep hb20).keep (below_alloc _ _))
            have HX21 := Lib.hid (show Box w21 g19 37 #[.slice A20 L2 c20, .int .i64 a2, .bool z2, .bool s2] by rw [hw21, hg19]; exact Box.new _ _ _)
            have HR21 := Lib.hid (show Rd w21 1 A18 Lo (I o) by rw [hw21]; exact (HR19.out.keep hb20).keep (below_alloc _ _))
            rw [← hw21, ← hg19]
            clear hw21 hg19 hb20 ho20 HM19 HV19 HR19 C18
            have C19 := HX21.out.cell
            go_wp2_with fail
            refine (rHas_eq A18 Lo c18 o a2 _ HR21.out (by omega) true HHAS.out).mono ?_
            rintro e w22 ⟨rfl, rfl⟩
            go_wp2
            go_meet
            exact Lib.hid HM21.out.bel
  case rest =>
    have HB20 := hcut
    clear hcut HM7 HV7 HO7 HRUN HT HB HG HL
    go_wp2_with fail
    refine (DrawStepGuest_any A n ca _ ((HC.out.keep HB20.out).code HN.out)).mono ?_
    rintro e w21 ⟨Bp, nq, cq, qs, B3, m3, d3, rs2, a2, z2, s2, rfl, hnq, hm3, hop, how, hb21⟩
    go_upto_region 27 with (fail)
    obtain ⟨w22, hw22⟩ : ∃ w22, w22 = w21.alloc (.cells #[.slice B3 m3 d3, .int .i64 a2, .bool z2, .bool s2] 37) := ⟨_, rfl⟩
    obtain ⟨g23, hg23⟩ : ∃ g, g = w21.heap.size := ⟨_, rfl⟩
    have HM22 := Lib.hid (show Gm w w22 Bp nq qs by rw [hw22]; exact (⟨below_next HB20.out hb21, hop.rd⟩ : Gm w w21 Bp nq qs).keep (below_alloc _ _))
    have HV22 := Lib.hid (show Rv w22 g23 B3 m3 d3 rs2 a2 z2 s2 by rw [hw22, hg23]; exact Rv.new how.rd a2 z2 s2)
    rw [← hw22, ← hg23]
    have hrn : rs2.length = m3 := how.rd.len
    clear hw22 hg23 hb21 hop how HB20
    obtain ⟨b2, hb2⟩ : ∃ b, b = (regB qs rs2 a2 && !s2) := ⟨_, rfl⟩
    have hrl := stR_len qs rs2 a2 z2 s2
    obtain ⟨G2, hG⟩ : ∃ G, G = stR qs rs2 a2 z2 s2 := ⟨_, rfl⟩
    rw [← hG] at hrl
    obtain ⟨rg, ga, gz, gs⟩ := G2
    obtain ⟨L, hL⟩ : ∃ L, L = rg.length := ⟨_, rfl⟩
    have hL4 : L ≤ 4 := by have h3 : rg.length ≤ rs2.length := hrl; omega
    have HB := Lib.hid hb2.symm
    have HG := Lib.hid hG.symm
    have HL := Lib.hid hL.symm
    clear hb2 hG hL hrl hrn
    have C4 := HV22.out.box.cell
    go_wp2_with fail
    refine (i_StepGuest_b HB.out HG.out HL.out Bp nq cq B3 m3 d3 _ HM22.out.rp HV22.out.rd (by omega) (by omega)).mono ?_
    rintro e w23 ⟨A6, c6, rfl, ho3, hb3⟩
    go_upto_region 28 with (fail)
    obtain ⟨w24, hw24⟩ : ∃ w24, w24 = w23.alloc (.cells #[.slice A6 L c6, .int .i64 ga, .bool gz, .bool gs] 37) := ⟨_, rfl⟩
    obtain ⟨g6, hg6⟩ : ∃ g, g = w23.heap.size := ⟨_, rfl⟩
    have HM4 := Lib.hid (show Gm w w24 Bp nq qs by rw [hw24]; exact (HM22.out.keep hb3).keep (below_alloc _ _))
    have HV4 := Lib.hid (show Rv w24 g23 B3 m3 d3 rs2 a2 z2 s2 by rw [hw24]; exact (HV22.out.keep hb3).keep (below_alloc _ _))
    have HO4 := Lib.hid (show Rv w24 g6 A6 L c6 rg ga gz gs by rw [hw24, hg6]; exact Rv.new ho3.rd ga gz gs)
    rw [← hw24, ← hg6]
    clear hw24 hg6 hb3 ho3 HM22 HV22 C4
    have C4 := HV4.out.box.cell
    go_wp2_with fail
    refine (s_StepGuest_b HB.out HG.out HL.out Bp nq cq B3 m3 d3 _ HM4.out.rp HV4.out.rd (by omega) (by omega)).mono ?_
    rintro e w25 ⟨A9, c9, rfl, ho5, hb5⟩
    go_upto_region 29 with (fail)
    obtain ⟨w26, hw26⟩ : ∃ w26, w26 = w25.alloc (.cells #[.slice A9 L c9, .int .i64 ga, .bool gz, .bool gs] 37) := ⟨_, rfl⟩
    obtain ⟨g9, hg9⟩ : ∃ g, g = w25.heap.size := ⟨_, rfl⟩
    have HM6 := Lib.hid (show Gm w w26 Bp nq qs by rw [hw26]; exact (HM4.out.keep hb5).keep (below_alloc _ _))
    have HO6 := Lib.hid (show Rv w26 g6 A6 L c6 rg ga gz gs by rw [hw26]; exact (HO4.out.keep hb5).keep (below_alloc _ _))
    have HW6 := Lib.hid (show Rv w26 g9 A9 L c9 rg ga gz gs by rw [hw26, hg9]; exact Rv.new ho5.rd ga gz gs)
    rw [← hw26, ← hg9]
    clear hw26 hg9 hb5 ho5 HM4 HV4 HO4 C4
    have C6 := HO6.out.box.cell
    have C9 := HW6.out.box.cell
    have t1 : (b2 != b2) = false := by simp
    go_wp2_with fail
    refine (rRegisters_same A6 A9 L c6 c9 rg ga gz gs _ HO6.out.rd HW6.out.rd (by omega)).mono ?_
    rintro e w27 ⟨rfl, hb7⟩
    have HB27 := Lib.hid (HM6.out.keep hb7).bel
    clear hb7 HM6 HO6 HW6 C6 C9 t1
    go_wp2_with fail
    refine (DrawReachedBy_any A n ca _ ((HC.out.keep HB27.out).code HN.out)).mono ?_
    rintro e w28 ⟨Cp, nu, cu, us, rfl, hnu, hop, hb28⟩
    have HM28 := Lib.hid (⟨below_next HB27.out hb28, hop.rd⟩ : Gm w w28 Cp nu us)
    clear hb28 hop HB27
    obtain ⟨o, ho, hol⟩ := rl_exists us
    obtain ⟨b3, hb3⟩ : ∃ b, b = progB us := ⟨_, rfl⟩
    rw [← hb3] at ho
    obtain ⟨Lo, hLo⟩ : ∃ x, x = o.length := ⟨_, rfl⟩
    rw [← hLo] at hol
    have HPB := Lib.hid hb3.symm
    have HLO := Lib.hid hLo.symm
    have HRL := Lib.hid ho
    clear hLo ho hb3
    go_wp2_with fail
    refine (i_ReachedBy_b HPB.out HRL.out HLO.out Cp nu cu _ HM28.out.rp (by omega)).mono ?_
    rintro e w29 ⟨A29, c29, rfl, ho29, hb29⟩
    have HM29 := Lib.hid (HM28.out.keep hb29)
    have HR29 := Lib.hid (show Rd w29 1 A29 Lo (I o) from ho29.rd)
    clear hb29 ho29 HM28
    go_wp2_with fail
    refine (s_ReachedBy_b HPB.out HRL.out HLO.out Cp nu cu _ HM29.out.rp (by omega)).mono ?_
    rintro e w30 ⟨A30, c30, rfl, ho30, hb30⟩
    have HM30 := Lib.hid (HM29.out.keep hb30)
    have HR30 := Lib.hid (HR29.out.keep hb30)
    have HS30 := Lib.hid (show Rd w30 1 A30 Lo (I o) from ho30.rd)
    clear hb30 ho30 HM29 HR29
    have t1 : (b3 == b3) = true := by simp
    go_wp2_with fail
    refine (rInts_same A29 A30 Lo c29 c30 o _ HR30.out HS30.out (by omega)).mono ?_
    rintro e w31 ⟨rfl, hb31⟩
    have HM31 := Lib.hid (HM30.out.keep hb31)
    clear hb31 HM30 HR30 HS30
    go_wp2_with fail
    refine (i_IsProgram_eq Cp nu cu us _ HM31.out.rp (by omega) b3 HPB.out).mono ?_
    rintro e w32 ⟨rfl, hb32⟩
    have HB32 := Lib.hid (HM31.out.keep hb32).bel
    clear hb32 HM31
    go_wp2
    go_ret
    exact ⟨ret_bool (by simp), HB32.out⟩
end Go.Proofs.Ytlahpnihnpmgoaa
