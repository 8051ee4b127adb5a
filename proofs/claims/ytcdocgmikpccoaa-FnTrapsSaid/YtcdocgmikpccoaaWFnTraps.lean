/- The walk of the law FnTraps through its contracts. FnTraps returns true for every code. No conditions. -/
import Derived.Test.YtcdocgmikpccoaaDv
import Derived.Test.YtcdocgmikpccoaaTrw
import Derived.Test.YtcdocgmikpccoaaRi
import Derived.Deep.CutBlock
import Derived.Test.YtcdocgmikpccoaaOpC
namespace Go.Proofs.Ytcdocgmikpccoaa
open Go.RowKit
set_option linter.unusedVariables false
set_option linter.unusedSimpArgs false

/-- between the parts of the law: what was there, and the drawn trap in its variable -/
structure St (w wx : World) (g : Nat) (c wi : Int) (s : Bool) (r i : Int) : Prop where
  bel : Below w.heap.size w wx
  box : Box wx g 35 (trA c wi s r i)
theorem St.step {w wx wy : World} {g : Nat} {c wi : Int} {s : Bool} {r i : Int} (S : St w wx g c wi s r i) (hb : Below wx.heap.size wx wy) : St w wy g c wi s r i := ⟨below_next S.bel hb, S.box.keep hb⟩
theorem St.alloc {w wx : World} {g : Nat} {c wi : Int} {s : Bool} {r i : Int} (S : St w wx g c wi s r i) (o : Obj) : St w (wx.alloc o) g c wi s r i := S.step (below_alloc wx o)

theorem below_of {w w18 wx : World} {L : List Thing} (h : Below w.heap.size w w18) (S : Sep w18 wx L) : Below w.heap.size w wx := below_next h S.bel
set_option maxRecDepth 100000 in
set_option maxHeartbeats 8000000 in
theorem walk_FnTraps (A : Option Addr) (n ca : Nat) (w : World) (hb : Bys w A n) (hm : n ≤ maxLen) :
    Calls Try.prog 5 #[.slice A n ca] w fun e w' => e = .returned (.bool true) ∧ Below w.heap.size w w' := by
  unfold maxLen at hm
  by_cases hn : n ≤ 65536
  rotate_left
  · have H := Lib.hid hn
    clear hn
    go_enter Try.func5, Try.ntmps5
    go_wp2_with fail
    refine (rBig_eq A n ca _ hm true (by have := H.out; simp; omega)).mono ?_
    rintro e w1 ⟨rfl, rfl⟩
    go_wp2
    go_ret
    exact ⟨rfl, Below.refl _ _⟩
  have HC := Lib.hid hb
  have HN := Lib.hid hn
  clear hb hn
  go_enter Try.func5, Try.ntmps5
  go_wp2_with fail
  refine (rBig_eq A n ca _ hm false (by have := HN.out; simp; omega)).mono ?_
  rintro e w1 ⟨rfl, rfl⟩
  clear hm
  go_wp2_with fail
  refine (DrawSyndrome_any A n ca _ (HC.out.code HN.out)).mono ?_
  rintro e w1 ⟨c, wi, s, r, i, rfl, hb1⟩
  go_upto_region 4 with (fail)
  obtain ⟨w2, hw2⟩ : ∃ w2, w2 = w1.alloc (.cells #[.int .i64 c, .int .i64 wi, .bool s, .int .i64 r, .int .i64 i] 35) := ⟨_, rfl⟩
  obtain ⟨g, hg⟩ : ∃ g, g = w1.heap.size := ⟨_, rfl⟩
  have HS2 := Lib.hid (show St w w2 g c wi s r i by rw [hw2, hg]; exact ⟨below_next hb1 (below_alloc _ _), Box.new w1 _ _⟩)
  rw [← hw2, ← hg]
  obtain ⟨b, hbb⟩ : ∃ b, b = trapB c wi s r i := ⟨_, rfl⟩
  obtain ⟨q, hq⟩ : ∃ q, q = selI b (numI c wi s r i) := ⟨_, rfl⟩
  have HT := Lib.hid hbb.symm
  have HQ := Lib.hid hq.symm
  clear hw2 hg hb1 hbb hq
  have C := HS2.out.box.cell
  go_wp2_with fail
  refine (i_Syndrome_b HT.out HQ.out _).mono ?_
  rintro e w3 ⟨rfl, hb3⟩
  have HS3 := Lib.hid (HS2.out.step hb3)
  clear hb3 HS2 C
  have C := HS3.out.box.cell
  go_wp2_with fail
  refine (s_Syndrome_b HT.out HQ.out _).mono ?_
  rintro e w4 ⟨rfl, hb4⟩
  have HS4 := Lib.hid (HS3.out.step hb4)
  clear hb4 HS3 C
  have C := HS4.out.box.cell
  go_wp2_with fail
  refine (i_IsTrap_eq HT.out _).mono ?_
  rintro e w5 ⟨rfl, hb5⟩
  have HS5 := Lib.hid (HS4.out.step hb5)
  clear hb5 HS4 C
  have C := HS5.out.box.cell
  go_wp2_with fail
  refine (i_TrapOf_b HT.out HQ.out _).mono ?_
  rintro e w6 ⟨rfl, hb6⟩
  have HS6 := Lib.hid (HS5.out.step hb6)
  clear hb6 HS5 C
  go_upto_region 9 with (fail)
  have HS7 := Lib.hid (HS6.out.alloc (.cells #[.int .i64 (selI b c), .int .i64 (selI b wi), .bool (selB b s), .int .i64 (selI b r), .int .i64 (selI b i)] 35))
  have C := HS7.out.box.cell
  go_cut [72] from 63 to 71 (fun t wx => t = .bool false ∧ Hid (St w wx g c wi s r i))
  case first =>
    cases b
    · go_wp2
      go_meet
      exact ⟨rfl, HS7⟩
    · rw [show selI true c = c from rfl, show selI true wi = wi from rfl, show selB true s = s from rfl, show selI true r = r from rfl, show selI true i = i from rfl]
      rw [show selI true c = c from rfl, show selI true wi = wi from rfl, show selB true s = s from rfl, show selI true r = r from rfl, show selI true i = i from rfl] at HS7 C
      go_wp2
      go_meet
      exact ⟨rfl, HS7⟩
  case rest =>
    obtain ⟨rfl, HS8⟩ := hcut
    clear HS7 C HS6
    go_wp2_with fail
    refine (DrawTrapOf_any A n ca _ ((HC.out.keep HS8.out.bel).code HN.out)).mono ?_
    rintro e w9 ⟨m, rfl, hb9⟩
    have HS9 := Lib.hid (HS8.out.step hb9)
    obtain ⟨c2, wi2, s2, r2, i2, hT2, hN2⟩ := trap_of m
    obtain ⟨f, hf⟩ : ∃ f, f = ofB m := ⟨_, rfl⟩
    have HF := Lib.hid hf.symm
    have HT2 := Lib.hid hT2
    have HN2 := Lib.hid hN2
    clear hb9 HS8 hT2 hN2 hf
    go_wp2_with fail
    refine (i_TrapOf_t HT2.out HF.out _).mono ?_
    rintro e w10 ⟨rfl, hb10⟩
    have HS10 := Lib.hid ((HS9.out.step hb10).alloc (.cells (trA c2 wi2 s2 r2 i2) 35))
    have HX10 := Lib.hid (Box.new w10 35 (trA c2 wi2 s2 r2 i2))
    clear hb10 HS9
    go_wp2_with fail
    refine (s_TrapOf_t HT2.out HF.out _).mono ?_
    rintro e w11 ⟨rfl, hb11⟩
    go_upto_region 14 with (fail)
    obtain ⟨w12, hw12⟩ : ∃ w12, w12 = w11.alloc (.cells #[.int .i64 c2, .int .i64 wi2, .bool s2, .int .i64 r2, .int .i64 i2] 35) := ⟨_, rfl⟩
    obtain ⟨g11, hg11⟩ : ∃ g11, g11 = w10.heap.size := ⟨_, rfl⟩
    obtain ⟨g13, hg13⟩ : ∃ g13, g13 = w11.heap.size := ⟨_, rfl⟩
    have HS12 : Hid (St w w12 g c wi s r i) := by rw [hw12]; exact Lib.hid ((HS10.out.step hb11).alloc _)
    have HX11 : Hid (Box w12 g11 35 (trA c2 wi2 s2 r2 i2)) := by rw [hw12, hg11]; exact Lib.hid ((HX10.out.keep hb11).alloc _)
    have HX13 : Hid (Box w12 g13 35 (trA c2 wi2 s2 r2 i2)) := by rw [hw12, hg13]; exact Lib.hid (Box.new w11 _ _)
    rw [← hw12, ← hg11, ← hg13]
    clear hw12 hg11 hg13 hb11 HS10 HX10
    have C11 := HX11.out.cell
    have C13 := HX13.out.cell
    go_upto_if 93 with (fail)
    go_cut [15, 16] from 93 to 105 (fun x y wx => Hid (St w wx g c wi s r i))
    case first =>
      cases f
      · go_wp2
        go_meet
        exact HS12
      · obtain ⟨k1, k2⟩ := HN2.out HF.out
        have K1 := Lib.hid k1
        have K2 := Lib.hid (show selI true (numI c2 wi2 s2 r2 i2) = m from k2)
        clear k1 k2 C13
        go_wp2_with fail
        refine (i_Syndrome_b K1.out K2.out _).mono ?_
        rintro e w13 ⟨rfl, hb13⟩
        have HS13 := Lib.hid (HS12.out.step hb13)
        clear hb13
        go_wp2
        go_meet
        exact HS13
    case rest =>
      have HS14 := hcut
      clear hcut C11 C13 HX11 HX13 HS12
      have C := HS14.out.box.cell
      obtain ⟨d, hd⟩ : ∃ d, d = (b && c == 1) := ⟨_, rfl⟩
      have HD := Lib.hid hd.symm
      clear hd
      go_wp2_with fail
      refine (i_DoesRepeat_b HT.out HD.out _).mono ?_
      rintro e w15 ⟨rfl, hb15⟩
      have HS15 := Lib.hid (HS14.out.step hb15)
      clear hb15 HS14 C
      have C := HS15.out.box.cell
      go_wp2_with fail
      refine (s_DoesRepeat_b HT.out HD.out _).mono ?_
      rintro e w16 ⟨rfl, hb16⟩
      have HS16 := Lib.hid (HS15.out.step hb16)
      clear hb16 HS15 C
      have C := HS16.out.box.cell
      go_upto_region 22 with (fail)
      go_cut [133] from 116 to 132 (fun t wx => t = .bool false ∧ w16 = wx)
      case first =>
        cases b
        · go_wp2
          go_meet
          exact ⟨rfl, rfl⟩
        · by_cases h1 : c = 1
          · have hd : d = true := by rw [← HD.out]; simp [h1]
            subst hd h1
            go_wp2
            go_meet
            exact ⟨rfl, rfl⟩
          · have hd : d = false := by rw [← HD.out]; simp [h1]
            have h2 : (c == 1) = false := by simp [h1]
            subst hd
            clear h1
            go_wp2
            go_meet
            exact ⟨rfl, rfl⟩
      case rest =>
        obtain ⟨rfl, rfl⟩ := hcut
        obtain ⟨t, ht⟩ : ∃ t, t = selS b (nameB c s) := ⟨_, rfl⟩
        have HTN := Lib.hid ht.symm
        clear ht
        go_wp2_with fail
        refine (i_TrapName_b HT.out HTN.out _).mono ?_
        rintro e w17 ⟨rfl, hb17⟩
        have HS17 := Lib.hid (HS16.out.step hb17)
        clear hb17 HS16 C
        have C := HS17.out.box.cell
        go_wp2_with fail
        refine (s_TrapName_b HT.out HTN.out _).mono ?_
        rintro e w18 ⟨rfl, hb18⟩
        have HB18 := Lib.hid (HS17.out.step hb18).bel
        clear hb18 HS17 C
        go_wp2_with fail
        refine (DrawCountCauses_any A n ca _ ((HC.out.keep HB18.out).code HN.out)).mono ?_
        rintro e w19 ⟨A1, n1, c1, xs, rfl, hn1, ho1, hb19⟩
        have hxs := ho1.rd.lenS posTrap cTrap_len
        have hxs' : xs.length = n1 := hxs
        have S0 := (Sep.start w18).new hb19 ho1
        have HS0 := Lib.hid S0
        have HXS := Lib.hid hxs'
        have hl5 := selL_len5 (ccOk xs) xs
        have HB19 := Lib.hid (below_next HB18.out hb19)
        clear ho1 hb19 S0 hxs hxs'
        obtain ⟨k, hk⟩ : ∃ k, k = ccOk xs := ⟨_, rfl⟩
        have HK := Lib.hid hk.symm
        go_wp2_with fail
        refine (i_CountCauses_any A1 n1 c1 xs _ (HS0.out.rd 0 rfl) (by omega)).mono ?_
        rintro e w20 ⟨A2, c2, rfl, ho2, hb20⟩
        have HS1 := Lib.hid (HS0.out.new hb20 ho2)
        clear ho2 hb20 HS0
        go_wp2_with fail
        refine (s_CountCauses_any A1 n1 c1 xs _ (HS1.out.rd 0 rfl) (by omega)).mono ?_
        rintro e w21 ⟨A3, c3, rfl, ho3, hb21⟩
        have HS2 := Lib.hid (HS1.out.new hb21 ho3)
        clear ho3 hb21 HS1
        rw [← hk] at HS2 hl5
        rw [← hk]
        clear hk
        cases k
        · go_wp2_with fail
          refine (rInts_same A2 A3 _ _ _ (selL false (cnF xs)) _ (HS2.out.rd 1 rfl) (HS2.out.rd 2 rfl) (by omega)).mono ?_
          rintro e w22 ⟨rfl, hb22⟩
          have HS3 := Lib.hid (HS2.out.below hb22)
          clear hb22 HS2
          go_wp2
          go_ret
          exact ⟨rfl, below_of HB18.out HS3.out⟩
        · have HSUM := Lib.hid (show (selL true (cnF xs)).sum = (n1 : Int) by rw [← HXS.out]; exact cc_sum HK.out)
          go_wp2_with fail
          refine (rInts_same A2 A3 _ _ _ (selL true (cnF xs)) _ (HS2.out.rd 1 rfl) (HS2.out.rd 2 rfl) (by omega)).mono ?_
          rintro e w22 ⟨rfl, hb22⟩
          have HS3 := Lib.hid (HS2.out.below hb22)
          clear hb22 HS2
          go_wp2_with fail
          refine (rSum_any A2 _ _ (selL true (cnF xs)) _ (HS3.out.rd 1 rfl) (by show (cnF xs).length ≤ 1000; rw [cnF_len5]; omega) (cc_bd xs (by rw [HXS.out]; omega))).mono ?_
          rintro e w23 ⟨rfl, rfl⟩
          rw [HSUM.out]
          go_wp2
          go_ret
          exact ⟨rfl, below_of HB18.out HS3.out⟩
end Go.Proofs.Ytcdocgmikpccoaa
