/- The walk of the law FnInstructions through its contracts. FnInstructions returns true for every code (the card of it, tied to the program). No conditions. -/
import Derived.Test.YtlahpnihnpmgoaaDoorGi
import Derived.Test.YtlahpnihnpmgoaaDoorRi
import Derived.Test.YtlahpnihnpmgoaaDoorLaid8
import Derived.Test.YtlahpnihnpmgoaaDoorOpC
import Derived.Deep.CutBlock
namespace Go.Proofs.YtlahpnihnpmgoaaDoor
open Go.RowKit
set_option linter.unusedVariables false
set_option linter.unusedSimpArgs false

/-- what stays: the drawn instruction in its variable -/
structure Si (w wx : World) (g : Nat) (o a b n : Int) : Prop where
  bel : Below w.heap.size w wx
  box : Box wx g 26 #[.int .i64 o, .int .i64 a, .int .i64 b, .int .i64 n]
theorem Si.keep {w wx wy : World} {g : Nat} {o a b n : Int} (S : Si w wx g o a b n) (hb : Below wx.heap.size wx wy) : Si w wy g o a b n := ⟨below_next S.bel hb, S.box.keep hb⟩
theorem i_Pack_b {o a b n p : Int} {v : Bool} (hv : insB o a b n = v) (hp : selI v (pakI o a b n) = p) (w : World) :
    Calls Tryd.prog 14 #[insV o a b n] w fun e w' => e = .returned (.tuple #[.int .i64 p, .bool v]) ∧ Below w.heap.size w w' := by
  subst hv hp; exact i_PackInstruction_any o a b n w
theorem s_Pack_b {o a b n p : Int} {v : Bool} (hv : insB o a b n = v) (hp : selI v (pakI o a b n) = p) (w : World) :
    Calls Tryd.prog 15 #[insV o a b n] w fun e w' => e = .returned (.tuple #[.int .i64 p, .bool v]) ∧ Below w.heap.size w w' := by
  subst hv hp; exact s_PackInstruction_any o a b n w
theorem i_Unpack_b {m p0 p1 p2 p3 : Int} {u : Bool} (hu : unB m = u) (hp : insN m = insV p0 p1 p2 p3) (w : World) :
    Calls Tryd.prog 17 #[.int .i64 m] w fun e w' => e = .returned (.tuple #[insV p0 p1 p2 p3, .bool u]) ∧ Below w.heap.size w w' := by
  subst hu; rw [← hp]; exact i_UnpackInstruction_any m w
theorem s_Unpack_b {m p0 p1 p2 p3 : Int} {u : Bool} (hu : unB m = u) (hp : insN m = insV p0 p1 p2 p3) (w : World) :
    Calls Tryd.prog 19 #[.int .i64 m] w fun e w' => e = .returned (.tuple #[insV p0 p1 p2 p3, .bool u]) ∧ Below w.heap.size w w' := by
  subst hu; rw [← hp]; exact s_UnpackInstruction_any m w
theorem i_Asm_b {o a b n : Int} {v : Bool} {t : List UInt8} (hv : insB o a b n = v) (ht : selB v (asmL o a b n) = ⟨t.toArray⟩) (w : World) (hE : Ev w) :
    Calls Tryd.prog 8 #[insV o a b n] w fun e w' => e = .returned (.tuple #[.string ⟨t.toArray⟩, .bool v]) ∧ Below w.heap.size w w' := by
  rw [← ht]; exact i_AssemblyText_eq hv w hE.tab hE.nms
theorem s_Asm_b {o a b n : Int} {v : Bool} {t : List UInt8} (hv : insB o a b n = v) (ht : selB v (asmL o a b n) = ⟨t.toArray⟩) (w : World) :
    Calls Tryd.prog 6 #[insV o a b n] w fun e w' => e = .returned (.tuple #[.string ⟨t.toArray⟩, .bool v]) ∧ Below w.heap.size w w' := by
  rw [← ht]; exact s_AssemblyText_eq hv w

set_option maxRecDepth 100000 in
set_option maxHeartbeats 8000000 in
theorem walk_FnInstructions (A : Option Addr) (n ca : Nat) (w : World) (hb : Bys w A n) (hm : n ≤ maxLen) (hL : laidMetH Tryd.prog lst8 w) (hsh : w.ShapedOpen Tryd.prog) :
    Calls Tryd.prog 5 #[.slice A n ca] w fun e w' => e = .returned (.bool true) ∧ Below w.heap.size w w' := by
  have HE := Lib.hid (ev_of8 hL)
  have HM := Lib.hid (Mx.of hsh)
  clear hL hsh
  unfold maxLen at hm
  by_cases hn : n ≤ 65536
  rotate_left
  · have H := Lib.hid hn
    clear hn
    go_enter Tryd.func5, Tryd.ntmps5
    go_wp2_with fail
    refine (rBig_eq A n ca _ hm true (by have := H.out; simp; omega)).mono ?_
    rintro e w1 ⟨rfl, rfl⟩
    go_wp2
    go_ret
    exact ⟨rfl, Below.refl _ _⟩
  have HC := Lib.hid hb
  have HN := Lib.hid hn
  clear hb hn
  go_enter Tryd.func5, Tryd.ntmps5
  go_wp2_with fail
  refine (rBig_eq A n ca _ hm false (by have := HN.out; simp; omega)).mono ?_
  rintro e w1 ⟨rfl, rfl⟩
  clear hm
  go_wp2_with fail
  refine (DrawPackInstruction_any A n ca _ (HC.out.code HN.out)).mono ?_
  rintro e w1 ⟨o, a, b, m, rfl, hb1⟩
  go_upto_region 4 with (fail)
  obtain ⟨w2, hw2⟩ : ∃ w2, w2 = w1.alloc (.cells #[.int .i64 o, .int .i64 a, .int .i64 b, .int .i64 m] 26) := ⟨_, rfl⟩
  obtain ⟨g3, hg3⟩ : ∃ g, g = w1.heap.size := ⟨_, rfl⟩
  have HS2 := Lib.hid (show Si w w2 g3 o a b m by rw [hw2, hg3]; exact ⟨below_next hb1 (below_alloc _ _), Box.new w1 _ _⟩)
  rw [← hw2, ← hg3]
  clear hw2 hg3 hb1
  obtain ⟨v, hv⟩ : ∃ v, v = insB o a b m := ⟨_, rfl⟩
  obtain ⟨p, hp⟩ : ∃ p, p = selI v (pakI o a b m) := ⟨_, rfl⟩
  obtain ⟨p0, p1, p2, p3, hun, hunp⟩ := un_all p
  obtain ⟨u, hu⟩ : ∃ u, u = unB p := ⟨_, rfl⟩
  obtain ⟨t, ht, htv, htl⟩ := asm_text o a b m
  rw [← hv] at ht htv
  have HV := Lib.hid hv.symm
  have HPK := Lib.hid hp.symm
  have HUN := Lib.hid hun
  have HUP := Lib.hid hunp
  have HU := Lib.hid hu.symm
  have HT := Lib.hid ht
  have HTV := Lib.hid htv
  clear hv hp hun hunp hu ht htv
  have C := HS2.out.box.cell
  go_wp2_with fail
  refine (i_Pack_b HV.out HPK.out _).mono ?_
  rintro e w3 ⟨rfl, hb3⟩
  have HS3 := Lib.hid (HS2.out.keep hb3)
  clear hb3 HS2 C
  have C := HS3.out.box.cell
  go_wp2_with fail
  refine (s_Pack_b HV.out HPK.out _).mono ?_
  rintro e w4 ⟨rfl, hb4⟩
  have HS4 := Lib.hid (HS3.out.keep hb4)
  clear hb4 HS3 C
  have C := HS4.out.box.cell
  have t1 : (p != p) = false := by simp
  have t2 : (v != v) = false := by simp
  go_wp2_with fail
  refine (i_IsInstruction_eq HV.out _).mono ?_
  rintro e w5 ⟨rfl, hb5⟩
  have HS5 := Lib.hid (HS4.out.keep hb5)
  clear hb5 HS4 C t1
  go_wp2_with fail
  refine (i_Unpack_b HU.out HUN.out _).mono ?_
  rintro e w6 ⟨rfl, hb6⟩
  go_upto_region 9 with (fail)
  have HS7 := Lib.hid ((HS5.out.keep hb6).keep (below_alloc w6 (.cells #[.int .i64 p0, .int .i64 p1, .int .i64 p2, .int .i64 p3] 26)))
  have HX7 := Lib.hid (Box.new w6 26 #[.int .i64 p0, .int .i64 p1, .int .i64 p2, .int .i64 p3])
  obtain ⟨w7, hw7⟩ : ∃ w7, w7 = w6.alloc (.cells #[.int .i64 p0, .int .i64 p1, .int .i64 p2, .int .i64 p3] 26) := ⟨_, rfl⟩
  obtain ⟨g8, hg8⟩ : ∃ g, g = w6.heap.size := ⟨_, rfl⟩
  rw [← hw7] at HS7 HX7
  rw [← hg8] at HX7
  rw [← hw7, ← hg8]
  clear hw7 hg8 hb6 HS5
  go_cut [68] from 59 to 67 (fun x wx => x = .bool false ∧ w7 = wx)
  case first =>
    have C := HS7.out.box.cell
    have D := HX7.out.cell
    cases v
    · go_wp2
      go_meet
      exact ⟨rfl, rfl⟩
    · obtain ⟨e0, e1, e2, e3, e4⟩ := HUP.out o a b m HV.out HPK.out.symm
      obtain rfl : u = true := HU.out.symm.trans e0
      subst e1 e2 e3 e4
      go_wp2
      go_meet
      exact ⟨rfl, rfl⟩
  case rest =>
  obtain ⟨rfl, rfl⟩ := hcut
  clear HX7
  go_wp2_with fail
  refine (DrawUnpackInstruction_any A n ca _ ((HC.out.keep HS7.out.bel).code HN.out)).mono ?_
  rintro e w8 ⟨m2, rfl, hb8⟩
  have HS8 := Lib.hid (HS7.out.keep hb8)
  obtain ⟨q0, q1, q2, q3, hq, -⟩ := un_all m2
  obtain ⟨u2, hu2⟩ : ∃ u, u = unB m2 := ⟨_, rfl⟩
  have HQ := Lib.hid hq
  have HU2 := Lib.hid hu2.symm
  clear hq hu2 hb8 HS7
  go_wp2_with fail
  refine (i_Unpack_b HU2.out HQ.out _).mono ?_
  rintro e w9 ⟨rfl, hb9⟩
  go_upto_region 13 with (fail)
  have HS10 := Lib.hid ((HS8.out.keep hb9).keep (below_alloc w9 (.cells #[.int .i64 q0, .int .i64 q1, .int .i64 q2, .int .i64 q3] 26)))
  have HX10 := Lib.hid (Box.new w9 26 #[.int .i64 q0, .int .i64 q1, .int .i64 q2, .int .i64 q3])
  obtain ⟨w10, hw10⟩ : ∃ w7, w7 = w9.alloc (.cells #[.int .i64 q0, .int .i64 q1, .int .i64 q2, .int .i64 q3] 26) := ⟨_, rfl⟩
  obtain ⟨g11, hg11⟩ : ∃ g, g = w9.heap.size := ⟨_, rfl⟩
  rw [← hw10] at HS10 HX10
  rw [← hg11] at HX10
  rw [← hw10, ← hg11]
  clear hw10 hg11 hb9 HS8
  go_wp2_with fail
  refine (s_Unpack_b HU2.out HQ.out _).mono ?_
  rintro e w11 ⟨rfl, hb11⟩
  go_upto_region 14 with (fail)
  have HS12 := Lib.hid ((HS10.out.keep hb11).keep (below_alloc w11 (.cells #[.int .i64 q0, .int .i64 q1, .int .i64 q2, .int .i64 q3] 26)))
  have HX12 := Lib.hid ((HX10.out.keep hb11).alloc (.cells #[.int .i64 q0, .int .i64 q1, .int .i64 q2, .int .i64 q3] 26))
  have HY12 := Lib.hid (Box.new w11 26 #[.int .i64 q0, .int .i64 q1, .int .i64 q2, .int .i64 q3])
  obtain ⟨w12, hw12⟩ : ∃ w7, w7 = w11.alloc (.cells #[.int .i64 q0, .int .i64 q1, .int .i64 q2, .int .i64 q3] 26) := ⟨_, rfl⟩
  obtain ⟨g13, hg13⟩ : ∃ g, g = w11.heap.size := ⟨_, rfl⟩
  rw [← hw12] at HS12 HX12 HY12
  rw [← hg13] at HY12
  rw [← hw12, ← hg13]
  clear hw12 hg13 hb11 HS10 HX10
  have t3 : (u2 != u2) = false := by simp
  go_cut [88] from 81 to 87 (fun x wx => x = .bool false ∧ w12 = wx)
  case first =>
    have C := HX12.out.cell
    have D := HY12.out.cell
    go_wp2
    go_meet
    exact ⟨rfl, rfl⟩
  case rest =>
  obtain ⟨rfl, rfl⟩ := hcut
  clear HX12 HY12 t3
  have C := HS12.out.box.cell
  go_wp2_with fail
  refine (i_Asm_b HV.out HT.out _ (HE.out.keep HS12.out.bel)).mono ?_
  rintro e w13 ⟨rfl, hb13⟩
  have HS13 := Lib.hid (HS12.out.keep hb13)
  clear hb13 HS12 C
  have C := HS13.out.box.cell
  go_wp2_with fail
  refine (s_Asm_b HV.out HT.out _).mono ?_
  rintro e w14 ⟨rfl, hb14⟩
  have HS14 := Lib.hid (HS13.out.keep hb14)
  clear hb14 HS13 C
  go_wp2_with fail
  refine (i_ParseAssembly_any t _ (by omega) (HE.out.keep HS14.out.bel) (HM.out.keep HS14.out.bel)).mono ?_
  rintro e w15 ⟨r0, r1, r2, r3, k, rfl, hpa, hb15⟩
  have HPA := Lib.hid hpa
  clear hpa
  go_upto_region 21 with (fail)
  have HS16 := Lib.hid ((HS14.out.keep hb15).keep (below_alloc w15 (.cells #[.int .i64 r0, .int .i64 r1, .int .i64 r2, .int .i64 r3] 26)))
  have HX16 := Lib.hid (Box.new w15 26 #[.int .i64 r0, .int .i64 r1, .int .i64 r2, .int .i64 r3])
  obtain ⟨w16, hw16⟩ : ∃ w7, w7 = w15.alloc (.cells #[.int .i64 r0, .int .i64 r1, .int .i64 r2, .int .i64 r3] 26) := ⟨_, rfl⟩
  obtain ⟨g19, hg19⟩ : ∃ g, g = w15.heap.size := ⟨_, rfl⟩
  rw [← hw16] at HS16 HX16
  rw [← hg19] at HX16
  rw [← hw16, ← hg19]
  clear hw16 hg19 hb15 HS14
  go_cut [126] from 117 to 125 (fun x wx => x = .bool false ∧ w16 = wx)
  case first =>
    have C := HS16.out.box.cell
    have D := HX16.out.cell
    cases v
    · go_wp2
      go_meet
      exact ⟨rfl, rfl⟩
    · have hx : PA t o a b m true := ⟨HV.out, (HTV.out rfl).symm⟩
      obtain ⟨⟨e1, e2, e3, e4⟩, e0⟩ := PA.unique hx HPA.out
      subst e1 e2 e3 e4 e0
      clear hx
      go_wp2
      go_meet
      exact ⟨rfl, rfl⟩
  case rest =>
  obtain ⟨rfl, rfl⟩ := hcut
  have HB16 := Lib.hid HS16.out.bel
  clear HX16 HS16 HPA
  go_wp2_with fail
  refine (DrawParseAssembly_any A n ca _ ((HC.out.keep HB16.out).code HN.out)).mono ?_
  rintro e w17 ⟨l, rfl, hl, hb17⟩
  have HB17 := Lib.hid (below_next HB16.out hb17)
  clear hb17
  go_wp2_with fail
  refine (i_ParseAssembly_any l _ (by omega) (HE.out.keep HB17.out) (HM.out.keep HB17.out)).mono ?_
  rintro e w18 ⟨r0, r1, r2, r3, k, rfl, hpa, hb18⟩
  have HPA := Lib.hid hpa
  clear hpa
  go_upto_region 25 with (fail)
  have HB19 := Lib.hid (below_next (below_next HB17.out hb18) (below_alloc w18 (.cells #[.int .i64 r0, .int .i64 r1, .int .i64 r2, .int .i64 r3] 26)))
  have HX19 := Lib.hid (Box.new w18 26 #[.int .i64 r0, .int .i64 r1, .int .i64 r2, .int .i64 r3])
  obtain ⟨w19, hw19⟩ : ∃ w7, w7 = w18.alloc (.cells #[.int .i64 r0, .int .i64 r1, .int .i64 r2, .int .i64 r3] 26) := ⟨_, rfl⟩
  obtain ⟨g22, hg22⟩ : ∃ g, g = w18.heap.size := ⟨_, rfl⟩
  rw [← hw19] at HB19 HX19
  rw [← hg22] at HX19
  rw [← hw19, ← hg22]
  clear hw19 hg22 hb18
  go_wp2_with fail
  refine (s_ParseAssembly_any l _ (by omega)).mono ?_
  rintro e w20 ⟨r0', r1', r2', r3', k', rfl, hpa, hb20⟩
  obtain ⟨⟨rfl, rfl, rfl, rfl⟩, rfl⟩ := HPA.out.unique hpa
  clear hpa
  go_upto_region 26 with (fail)
  have HB21 := Lib.hid (below_next (below_next HB19.out hb20) (below_alloc w20 (.cells #[.int .i64 r0, .int .i64 r1, .int .i64 r2, .int .i64 r3] 26)))
  have HX21 := Lib.hid ((HX19.out.keep hb20).alloc (.cells #[.int .i64 r0, .int .i64 r1, .int .i64 r2, .int .i64 r3] 26))
  have HY21 := Lib.hid (Box.new w20 26 #[.int .i64 r0, .int .i64 r1, .int .i64 r2, .int .i64 r3])
  obtain ⟨w21, hw21⟩ : ∃ w7, w7 = w20.alloc (.cells #[.int .i64 r0, .int .i64 r1, .int .i64 r2, .int .i64 r3] 26) := ⟨_, rfl⟩
  obtain ⟨g24, hg24⟩ : ∃ g, g = w20.heap.size := ⟨_, rfl⟩
  rw [← hw21] at HB21 HX21 HY21
  rw [← hg24] at HY21
  rw [← hw21, ← hg24]
  clear hw21 hg24 hb20 HX19
  have C := HX21.out.cell
  have D := HY21.out.cell
  have t4 : (k == k) = true := by simp
  go_wp2
  go_ret
  exact ⟨by first | rfl | exact ret_bool (by simp), HB21.out⟩
end Go.Proofs.YtlahpnihnpmgoaaDoor
