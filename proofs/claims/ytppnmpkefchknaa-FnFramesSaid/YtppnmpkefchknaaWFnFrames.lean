/- The walk of the law FnFrames through its contracts. FnFrames returns true for every code. No conditions. -/
import Derived.Test.YtppnmpkefchknaaDo
import Derived.Test.YtppnmpkefchknaaFr
import Derived.Test.YtppnmpkefchknaaVi
import Derived.Deep.CutBlock
import Derived.Test.YtppnmpkefchknaaOpC
namespace Go.Proofs.Ytppnmpkefchknaa
open Go.RowKit
set_option linter.unusedVariables false
set_option linter.unusedSimpArgs false

theorem sep_code {w wx : World} {L : List Thing} {A : Option Addr} {n : Nat} (S : Sep w wx L) (hb : Bys w A n) (hn : n ≤ 65536) : Code wx wx.heap.size A n := (hb.keep S.bel).code hn
theorem len_hid {l : List Int} {m : Nat} (h : m = l.length) : Hid (l.length = m) := h.symm

set_option maxRecDepth 100000 in
set_option maxHeartbeats 16000000 in
theorem walk_FnFrames (A : Option Addr) (n ca : Nat) (w : World) (hb : Bys w A n) (hm : n ≤ maxLen) :
    Calls Try.prog 4 #[.slice A n ca] w fun e w' => e = .returned (.bool true) ∧ Below w.heap.size w w' := by
  unfold maxLen at hm
  by_cases hn : n ≤ 65536
  rotate_left
  · have H := Lib.hid hn
    clear hn
    go_enter Try.func4, Try.ntmps4
    go_wp2_with fail
    refine (vBig_eq A n ca _ hm true (by have := H.out; simp; omega)).mono ?_
    rintro e w1 ⟨rfl, rfl⟩
    go_wp2
    go_ret
    exact ⟨rfl, Below.refl _ _⟩
  have HC := Lib.hid hb
  have HN := Lib.hid hn
  clear hb hn
  go_enter Try.func4, Try.ntmps4
  go_wp2_with fail
  refine (vBig_eq A n ca _ hm false (by have := HN.out; simp; omega)).mono ?_
  rintro e w1 ⟨rfl, rfl⟩
  clear hm
  go_wp2_with fail
  refine (DrawGrantFrames_any A n ca _ (HC.out.code HN.out)).mono ?_
  rintro e w1 ⟨A1, n1, c1, xs, g, m, rfl, hn1, ho1, hb1⟩
  have hlr : xs.length = n1 := ho1.rd.len
  have HS1 := Lib.hid ((Sep.start w).new hb1 ho1)
  clear hb1 ho1
  obtain ⟨b, hb⟩ : ∃ b, b = grantOk xs g m := ⟨_, rfl⟩
  obtain ⟨L1, hL1⟩ : ∃ L, L = selL b (grantL xs g m) := ⟨_, rfl⟩
  obtain ⟨L2, hL2⟩ : ∃ L, L = selL b (grantF xs m) := ⟨_, rfl⟩
  obtain ⟨m1, hm1⟩ : ∃ k, k = L1.length := ⟨_, rfl⟩
  obtain ⟨m2, hm2⟩ : ∃ k, k = L2.length := ⟨_, rfl⟩
  have hm1l : m1 ≤ 20 := by rw [hm1, hL1]; exact selL_len (by rw [grantL_len]; omega)
  have hm2l : m2 ≤ 20 := by rw [hm2, hL2]; exact selL_len (Nat.le_trans (grantF_len _ _) (by omega))
  have HB := Lib.hid hb.symm
  have HL1 := Lib.hid hL1.symm
  have HL2 := Lib.hid hL2.symm
  have HM1 := Lib.hid hm1.symm
  have HM2 := Lib.hid hm2.symm
  have HLR := Lib.hid hlr
  clear hb hL1 hL2 hm1 hm2 hlr
  go_wp2_with fail
  refine (i_GrantFrames_b A1 n1 c1 _ (HS1.out.rd 0 rfl) (by omega) HB.out HL1.out HL2.out HM1.out HM2.out).mono ?_
  rintro e w2 ⟨A2, c2, A3, c3, rfl, ho2, ho3, hd, hb2⟩
  have HS2 := Lib.hid (HS1.out.new2 hb2 ho2 ho3 hd)
  clear hb2 ho2 ho3 hd HS1
  go_wp2_with fail
  refine (s_GrantFrames_b A1 n1 c1 _ (HS2.out.rd 0 rfl) (by omega) HB.out HL1.out HL2.out HM1.out HM2.out).mono ?_
  rintro e w3 ⟨A4, c4, A5, c5, rfl, ho4, ho5, hd, hb3⟩
  have HS3 := Lib.hid (HS2.out.new2 hb3 ho4 ho5 hd)
  clear hb3 ho4 ho5 hd HS2
  go_wp2_with fail
  refine (vInts_same A2 A4 m1 c2 c4 L1 _ (HS3.out.rd 1 rfl) (HS3.out.rd 3 rfl) (by omega)).mono ?_
  rintro e w4 ⟨rfl, hb4⟩
  have HS4 := Lib.hid (HS3.out.below hb4)
  clear hb4 HS3
  go_wp2_with fail
  refine (vInts_same A3 A5 m2 c3 c5 L2 _ (HS4.out.rd 2 rfl) (HS4.out.rd 4 rfl) (by omega)).mono ?_
  rintro e w5 ⟨rfl, hb5⟩
  have HS5 := Lib.hid (HS4.out.below hb5)
  clear hb5 HS4
  go_upto_if 84 with (fail)
  go_cut [12, 13, 14, 15] from 84 to 124 (fun _ _ _ _ wx => Hid (Below w.heap.size w wx))
  case first =>
    cases b
    · go_wp2
      go_meet
      exact Lib.hid HS5.out.bel
    · obtain ⟨ho, hg, _, _⟩ := grant_parts HB.out
      have hL1 : L1 = bkL xs L2 g 0 := by rw [← HL1.out, ← HL2.out]; rfl
      obtain rfl : m1 = n1 := by rw [← HM1.out, hL1, bkL_len, HLR.out]
      obtain rfl : m = (m2 : Int) := by rw [← HM2.out, ← HL2.out]; exact (grant_count HB.out).symm
      have hfs : L2 = grantF xs (m2 : Int) := HL2.out.symm
      have HF := Lib.hid hfs
      have hr0 : Hid (Rd w5 1 A2 m1 (I (bkL xs L2 g 0))) := by rw [← hL1]; exact HS5.out.rd 1 rfl
      clear hL1 hfs hm1l HL1 HL2 ho hg
      go_wp2
      go_loopw [12, 13, 14, 15] (fun bk i _ _ wr => ∃ (k : Nat) (A6 : Option Addr) (c6 : Nat), k ≤ m2 ∧ i = .int .i64 k ∧ bk = .slice A6 m1 c6 ∧ Hid (Sep w wr [ti A1 m1 c1 xs, ti A2 m1 c2 L1, ti A3 m2 c3 L2, ti A4 m1 c4 L1, ti A5 m2 c5 L2]) ∧ Hid (Rd wr 1 A6 m1 (I (bkL xs L2 g k)))) (fun _ i _ _ _ => m2 - (intOf i).toNat)
      case atStart => exact ⟨0, A2, c2, by omega, rfl, rfl, HS5, hr0⟩
      case round =>
        obtain ⟨k, A6, c6, hk, rfl, rfl, HSr, HRr⟩ := hrel
        clear HS5 hr0
        by_cases hlt : k < m2
        · obtain ⟨bf, of, f, rfl, hbl, hfk, hc⟩ := (show Rd wr 1 A3 m2 (I L2) from HSr.out.rd 2 rfl).at_ hlt
          have hfk2 : (grantF xs (m2 : Int))[k]? = some f := by rw [← HF.out]; exact hfk.out
          have HTB := Lib.hid (take_back HB.out hfk2)
          have HTS := Lib.hid (bkL_succ (xs := xs) (g := g) hfk.out)
          obtain ⟨j, rfl, hj, hz⟩ := grant_zero (List.mem_of_getElem? hfk2)
          have hj1 : j < m1 := by have := HLR.out; omega
          clear hfk2
          have hll : Hid ((bkL xs L2 g (k + 1)).length = m1) := by rw [bkL_len]; exact HLR.out
          go_wp2_with fail
          refine (i_TakeFrame_b A6 m1 c6 _ HRr.out (by omega) (b := true) (by rw [HF.out]; exact HTB.out) (by show takeL _ _ = _; exact HTS.out) hll.out).mono ?_
          rintro e w6 ⟨A7, c7, rfl, ho7, hb7⟩
          have HS7 := Lib.hid (HSr.out.below hb7)
          have HR7 := Lib.hid ho7.rd
          have hc7 := (hb7.cell (p := ⟨bf, of + k, none⟩) hbl).trans hc
          clear hb7 ho7 HSr HRr hc
          obtain ⟨b', o', x', rfl, hbl', hxk', hc'⟩ := (show Rd w6 1 A1 m1 (I xs) from HS7.out.rd 0 rfl).at_ hj1
          obtain rfl : x' = 0 := by have := hxk'.out; rw [hz] at this; exact (Option.some.inj this).symm
          have h0 : (0 : Int) ≤ (k : Int) := by omega
          have h1 : (k : Int) < (m2 : Int) := by omega
          have h2 : (0 : Int) ≤ (j : Int) := by omega
          have h3 : (j : Int) < (m1 : Int) := by omega
          clear hz hj
          go_wp2
          go_roundw
          case rel => exact ⟨k + 1, A7, c7, by omega, by go_num, rfl, HS7, HR7⟩
          case measure => simp [intOf]; omega
        · obtain rfl : k = m2 := by omega
          have e1 : bkL xs L2 g k = xs := by rw [HF.out]; exact back_all (by rw [← HF.out, HM2.out]; exact Nat.le_refl _)
          have HR8 : Hid (Rd wr 1 A6 m1 (I xs)) := by have := HRr.out; rw [e1] at this; exact this
          clear e1 HRr
          have h0 : ((k : Int) != (k : Int)) = false := by simp
          go_wp2_with fail
          refine (vInts_same A6 A1 m1 c6 c1 xs _ HR8.out (HSr.out.rd 0 rfl) (by omega)).mono ?_
          rintro e w7 ⟨rfl, hb7⟩
          have HS7 := Lib.hid (HSr.out.below hb7)
          clear hb7
          go_wp2
          go_meet
          exact Lib.hid HS7.out.bel
  case rest =>
    have HB5 := hcut
    clear hcut HS5 HB HL1 HL2 HM1 HM2 HLR hm1l hm2l
    go_wp2_with fail
    refine (DrawTakeFrame_any A n ca _ ((HC.out.keep HB5.out).code HN.out)).mono ?_
    rintro e w6 ⟨A6, n6, c6, ys, g6, f6, rfl, hn6, ho6, hb6⟩
    have hlr : ys.length = n6 := ho6.rd.len
    have HS6 := Lib.hid ((Sep.start _).new hb6 ho6)
    clear hb6 ho6
    obtain ⟨b, hb⟩ : ∃ b, b = takeOk ys g6 f6 := ⟨_, rfl⟩
    obtain ⟨L, hL⟩ : ∃ L, L = selL b (takeL ys f6) := ⟨_, rfl⟩
    obtain ⟨k, hk⟩ : ∃ k, k = L.length := ⟨_, rfl⟩
    have hkl : k ≤ 20 := by rw [hk, hL]; exact selL_len (by simp [takeL]; omega)
    have HB := Lib.hid hb.symm
    have HL := Lib.hid hL.symm
    have HK := Lib.hid hk.symm
    clear hb hL hk hlr
    go_wp2_with fail
    refine (i_TakeFrame_b A6 n6 c6 _ (HS6.out.rd 0 rfl) (by omega) HB.out HL.out HK.out).mono ?_
    rintro e w7 ⟨A7, c7, rfl, ho7, hb7⟩
    have HS7 := Lib.hid (HS6.out.new hb7 ho7)
    clear hb7 ho7 HS6
    go_wp2_with fail
    refine (s_TakeFrame_b A6 n6 c6 _ (HS7.out.rd 0 rfl) (by omega) HB.out HL.out HK.out).mono ?_
    rintro e w8 ⟨A8, c8, rfl, ho8, hb8⟩
    have HS8 := Lib.hid (HS7.out.new hb8 ho8)
    clear hb8 ho8 HS7
    go_wp2_with fail
    refine (vInts_same A7 A8 k c7 c8 L _ (HS8.out.rd 1 rfl) (HS8.out.rd 2 rfl) (by omega)).mono ?_
    rintro e w9 ⟨rfl, hb9⟩
    have HB9 := Lib.hid (below_next HB5.out (HS8.out.below hb9).bel)
    clear hb9 HS8 HB HL HK HB5 hkl
    go_wp2_with fail
    refine (DrawFramesOf_any A n ca _ ((HC.out.keep HB9.out).code HN.out)).mono ?_
    rintro e w10 ⟨A10, n10, c10, zs, g10, rfl, hn10, _, ho10, hb10⟩
    have hlr : zs.length = n10 := ho10.rd.len
    have HS10 := Lib.hid ((Sep.start _).new hb10 ho10)
    clear hb10 ho10
    obtain ⟨bo, hbo⟩ : ∃ b, b = ownB zs := ⟨_, rfl⟩
    obtain ⟨b, hb⟩ : ∃ b, b = framesOk zs g10 := ⟨_, rfl⟩
    obtain ⟨L, hL⟩ : ∃ L, L = selL b (framesL zs g10) := ⟨_, rfl⟩
    obtain ⟨k, hk⟩ : ∃ k, k = L.length := ⟨_, rfl⟩
    have hkl : k ≤ 20 := by rw [hk, hL]; exact selL_len (Nat.le_trans framesL_len (by omega))
    have HBO := Lib.hid hbo.symm
    have HB := Lib.hid hb.symm
    have HL := Lib.hid hL.symm
    have HK := Lib.hid hk.symm
    have HLR := Lib.hid hlr
    clear hb hL hk hlr hbo
    go_wp2_with fail
    refine (i_FramesOf_b A10 n10 c10 _ (HS10.out.rd 0 rfl) (by omega) HB.out HL.out HK.out).mono ?_
    rintro e w11 ⟨A11, c11, rfl, ho11, hb11⟩
    have HS11 := Lib.hid (HS10.out.new hb11 ho11)
    clear hb11 ho11 HS10
    go_wp2_with fail
    refine (s_FramesOf_b A10 n10 c10 _ (HS11.out.rd 0 rfl) (by omega) HB.out HL.out HK.out).mono ?_
    rintro e w12 ⟨A12, c12, rfl, ho12, hb12⟩
    have HS12 := Lib.hid (HS11.out.new hb12 ho12)
    clear hb12 ho12 HS11
    go_wp2_with fail
    refine (vInts_same A11 A12 k c11 c12 L _ (HS12.out.rd 1 rfl) (HS12.out.rd 2 rfl) (by omega)).mono ?_
    rintro e w13 ⟨rfl, hb13⟩
    have HS13 := Lib.hid (HS12.out.below hb13)
    clear hb13 HS12
    go_wp2_with fail
    refine (i_AreOwners_eq A10 n10 c10 zs _ (HS13.out.rd 0 rfl) (by omega) bo HBO.out).mono ?_
    rintro e w14 ⟨rfl, rfl⟩
    go_wp2_with fail
    refine (l2AreOwners_eq A10 n10 c10 zs _ (HS13.out.rd 0 rfl) (by omega) bo HBO.out).mono ?_
    rintro e w14 ⟨rfl, hb14⟩
    have HS14 := Lib.hid (HS13.out.below hb14)
    clear hb14 HS13
    go_upto_if 187 with (fail)
    go_cut [29, 30, 31, 32] from 187 to 207 (fun _ _ _ _ wx => Hid (Below w.heap.size w wx))
    case first =>
      cases b
      · go_wp2
        go_meet
        exact Lib.hid (below_next HB9.out HS14.out.bel)
      · have hfo := HB.out
        obtain rfl : bo = true := by
          unfold framesOk at hfo
          rw [Bool.and_eq_true] at hfo
          rw [← HBO.out]; exact hfo.1
        clear hfo
        go_wp2
        go_loopw [29, 30, 31, 32] (fun sum k _ _ wr => ∃ (j s : Nat), j ≤ 5 ∧ s ≤ 20 * j ∧ k = .int .i64 j ∧ sum = .int .i64 s ∧ Hid (s = fsum zs j) ∧ Hid (Sep w9 wr [ti A10 n10 c10 zs])) (fun _ k _ _ _ => 5 - (intOf k).toNat)
        case atStart => exact ⟨0, 0, by omega, by omega, rfl, rfl, rfl, Lib.hid (Sep.takeL (P := [ti A10 n10 c10 zs]) (M := [_, _]) HS14.out)⟩
        case round =>
          obtain ⟨j, s, hj, hs, rfl, rfl, HSU, HSr⟩ := hrel
          clear HS14
          by_cases hlt : j < 5
          · obtain ⟨q, hq⟩ : ∃ q, q = (framesL zs (j : Int)).length := ⟨_, rfl⟩
            have hq20 : q ≤ 20 := by rw [hq]; exact Nat.le_trans framesL_len (by have := HLR.out; omega)
            have HQ := Lib.hid hq.symm
            clear hq
            have h1 : (j : Int) ≤ 4 := by omega
            go_wp2_with fail
            refine (i_FramesOf_b A10 n10 c10 _ (HSr.out.rd 0 rfl) (by omega) (b := true) (by unfold framesOk; rw [HBO.out, inB_iff.2 ⟨by omega, by omega⟩]; rfl) rfl HQ.out).mono ?_
            rintro e w15 ⟨A15, c15, rfl, ho15, hb15⟩
            have HS15 := Lib.hid (HSr.out.below hb15)
            clear hb15 ho15 HSr
            have HSV : Hid (s + q = fsum zs (j + 1)) := by rw [HSU.out, ← HQ.out]; rfl
            go_wp2
            go_roundw
            case rel => exact ⟨j + 1, s + q, by omega, by omega, by go_num, by go_num, HSV, HS15⟩
            case measure => simp [intOf]; omega
          · obtain rfl : j = 5 := by omega
            obtain rfl : s = n10 := by rw [HSU.out, fsum_all HBO.out, HLR.out]
            have h0 : ((s : Int) != (s : Int)) = false := by simp
            go_wp2
            go_meet
            exact Lib.hid (below_next HB9.out HSr.out.bel)
    case rest =>
      have HB14 := hcut
      clear hcut HS14 HB HL HK HLR HBO hkl HB9
      go_wp2_with fail
      refine (DrawOwnersText_any A n ca _ ((HC.out.keep HB14.out).code HN.out)).mono ?_
      rintro e w15 ⟨A15, n15, c15, us, rfl, hn15, ho15, hb15⟩
      have hlr : us.length = n15 := ho15.rd.len
      have HS15 := Lib.hid ((Sep.start _).new hb15 ho15)
      clear hb15 ho15
      obtain ⟨b, hb⟩ : ∃ b, b = ownB us := ⟨_, rfl⟩
      obtain ⟨t, ht, ht2, ht3⟩ := selS_mk b (textL us)
      rw [textL_len] at ht3
      obtain ⟨p, hp⟩ : ∃ p, p = parOk t := ⟨_, rfl⟩
      obtain ⟨L, hL⟩ : ∃ L, L = selL p (parL t) := ⟨_, rfl⟩
      obtain ⟨k, hk⟩ : ∃ k, k = L.length := ⟨_, rfl⟩
      have hkl : k ≤ 20 := by rw [hk, hL]; exact selL_len (by rw [parL_len]; omega)
      have htl : t.length ≤ 20 := by omega
      have HB := Lib.hid hb.symm
      have HT := Lib.hid ht
      have HT2 := Lib.hid ht2
      have HP := Lib.hid hp.symm
      have HL := Lib.hid hL.symm
      have HK := Lib.hid hk.symm
      have HLR := Lib.hid hlr
      clear hb ht ht2 ht3 hp hL hk hlr
      go_wp2_with fail
      refine (i_OwnersText_b A15 n15 c15 _ (HS15.out.rd 0 rfl) (by omega) HB.out HT.out).mono ?_
      rintro e w16 ⟨rfl, hb16⟩
      have HS16 := Lib.hid (HS15.out.below hb16)
      clear hb16 HS15
      go_wp2_with fail
      refine (i_ParseOwners_b _ (by omega) HP.out HL.out HK.out).mono ?_
      rintro e w17 ⟨A17, c17, rfl, ho17, hb17⟩
      have HS17 := Lib.hid (HS16.out.new hb17 ho17)
      clear hb17 ho17 HS16
      go_wp2_with fail
      refine (s_OwnersText_b A15 n15 c15 _ (HS17.out.rd 0 rfl) (by omega) HB.out HT.out).mono ?_
      rintro e w18 ⟨rfl, hb18⟩
      have HS18 := Lib.hid (HS17.out.below hb18)
      clear hb18 HS17
      go_upto_region 44 with (fail)
      go_cut [245] from 225 to 244 (fun t wx => t = .bool false ∧ Hid (Below w.heap.size w wx))
      case first =>
        cases b
        · go_wp2
          go_meet
          exact ⟨by simp, Lib.hid (below_next HB14.out HS18.out.bel)⟩
        · obtain rfl : t = textL us := HT2.out rfl
          obtain ⟨e1, e2⟩ := par_text HB.out
          obtain rfl : p = true := by rw [← HP.out, e2]
          obtain rfl : L = us := by rw [← HL.out]; exact e1
          obtain rfl : k = n15 := by rw [← HK.out, HLR.out]
          clear e1 e2
          go_wp2_with fail
          refine (vInts_same A17 A15 k c17 c15 L _ (HS18.out.rd 1 rfl) (HS18.out.rd 0 rfl) (by omega)).mono ?_
          rintro e w19 ⟨rfl, hb19⟩
          have HS19 := Lib.hid (HS18.out.below hb19)
          clear hb19 HS18
          go_wp2
          go_meet
          exact ⟨by simp, Lib.hid (below_next HB14.out HS19.out.bel)⟩
      case rest =>
        obtain ⟨rfl, HB20⟩ := hcut
        clear HS18 HB HT HT2 HP HL HK HLR HB14 hkl htl
        go_wp2_with fail
        refine (DrawParseOwners_any A n ca _ ((HC.out.keep HB20.out).code HN.out)).mono ?_
        rintro e w21 ⟨q, hq, rfl, hb21⟩
        obtain ⟨v, rfl⟩ : ∃ l : List UInt8, q = ⟨l.toArray⟩ := ⟨q.data.toList, by cases q; simp⟩
        have hv : v.length ≤ 100 := by have h1 : v.toArray.size ≤ 100 := hq; simpa using h1
        have HB21 := Lib.hid (below_next HB20.out hb21)
        clear hb21 HB20 hq
        obtain ⟨p, hp⟩ : ∃ p, p = parOk v := ⟨_, rfl⟩
        obtain ⟨L, hL⟩ : ∃ L, L = selL p (parL v) := ⟨_, rfl⟩
        obtain ⟨k, hk⟩ : ∃ k, k = L.length := ⟨_, rfl⟩
        have hkl : k ≤ 100 := by rw [hk, hL]; exact selL_len (by rw [parL_len]; omega)
        have HP := Lib.hid hp.symm
        have HL := Lib.hid hL.symm
        have HK := Lib.hid hk.symm
        clear hp hL hk
        go_wp2_with fail
        refine (i_ParseOwners_b _ (by omega) HP.out HL.out HK.out).mono ?_
        rintro e w22 ⟨A22, c22, rfl, ho22, hb22⟩
        have HS22 := Lib.hid (((Sep.start w).below HB21.out).new hb22 ho22)
        clear hb22 ho22 HB21
        go_wp2_with fail
        refine (s_ParseOwners_b _ (by omega) HP.out HL.out HK.out).mono ?_
        rintro e w23 ⟨A23, c23, rfl, ho23, hb23⟩
        have HS23 := Lib.hid (HS22.out.new hb23 ho23)
        clear hb23 ho23 HS22
        go_wp2_with fail
        refine (vInts_same A22 A23 k c22 c23 L _ (HS23.out.rd 0 rfl) (HS23.out.rd 1 rfl) (by omega)).mono ?_
        rintro e w24 ⟨rfl, hb24⟩
        go_wp2
        go_ret
        exact ⟨by simp, (HS23.out.below hb24).bel⟩
end Go.Proofs.Ytppnmpkefchknaa
