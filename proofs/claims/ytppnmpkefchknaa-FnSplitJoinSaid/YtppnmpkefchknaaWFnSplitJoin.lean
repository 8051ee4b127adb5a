/- The walk of the law FnSplitJoin through its contracts. FnSplitJoin returns true for every code. No conditions. -/
import Derived.Test.YtppnmpkefchknaaDj
import Derived.Test.YtppnmpkefchknaaSq
import Derived.Test.YtppnmpkefchknaaVi
import Derived.Deep.CutBlock
import Derived.Test.YtppnmpkefchknaaOpC
namespace Go.Proofs.Ytppnmpkefchknaa
open Go.RowKit
set_option linter.unusedVariables false
set_option linter.unusedSimpArgs false

theorem sep_code {w wx : World} {L : List Thing} {A : Option Addr} {n : Nat} (S : Sep w wx L) (hb : Bys w A n) (hn : n ≤ 65536) : Code wx wx.heap.size A n := (hb.keep S.bel).code hn

set_option maxRecDepth 100000 in
set_option maxHeartbeats 8000000 in
theorem walk_FnSplitJoin (A : Option Addr) (n ca : Nat) (w : World) (hb : Bys w A n) (hm : n ≤ maxLen) :
    Calls Try.prog 3 #[.slice A n ca] w fun e w' => e = .returned (.bool true) ∧ Below w.heap.size w w' := by
  unfold maxLen at hm
  by_cases hn : n ≤ 65536
  rotate_left
  · have H := Lib.hid hn
    clear hn
    go_enter Try.func3, Try.ntmps3
    go_wp2_with fail
    refine (vBig_eq A n ca _ hm true (by have := H.out; simp; omega)).mono ?_
    rintro e w1 ⟨rfl, rfl⟩
    go_wp2
    go_ret
    exact ⟨rfl, Below.refl _ _⟩
  have HC := Lib.hid hb
  have HN := Lib.hid hn
  clear hb hn
  go_enter Try.func3, Try.ntmps3
  go_wp2_with fail
  refine (vBig_eq A n ca _ hm false (by have := HN.out; simp; omega)).mono ?_
  rintro e w1 ⟨rfl, rfl⟩
  clear hm
  go_wp2_with fail
  refine (DrawSplitString_any A n ca _ (HC.out.code HN.out)).mono ?_
  rintro e w1 ⟨q, r, ⟨hq, hr⟩, rfl, hb1⟩
  obtain ⟨lq, rfl⟩ := bytes_mk q
  obtain ⟨lr, rfl⟩ := bytes_mk r
  have hlq : lq.length ≤ 10 := by have h1 : lq.toArray.size ≤ 10 := hq; simpa using h1
  have hlr : lr.length ≤ 2 := by have h1 : lr.toArray.size ≤ 2 := hr; simpa using h1
  clear hq hr
  have HS1 := Lib.hid ((Sep.start w).below hb1)
  clear hb1
  obtain ⟨ok, hok⟩ : ∃ b, b = splOk lq lr := ⟨_, rfl⟩
  obtain ⟨L, hL⟩ : ∃ L, L = selT ok (splR lq lr) := ⟨_, rfl⟩
  obtain ⟨k, hk⟩ : ∃ k, k = L.length := ⟨_, rfl⟩
  have hk11 : k ≤ 11 := by
    rw [hk, hL]
    unfold selT
    split
    · have := splitL_len (lr.headD 0) lq
      show (splitL (lr.headD 0) lq).length ≤ 11
      omega
    · exact Nat.zero_le _
  have HOK := Lib.hid hok.symm
  have HL := Lib.hid hL.symm
  have HK := Lib.hid hk.symm
  clear hok hL hk
  go_wp2_with fail
  refine (i_SplitString_b HOK.out HL.out HK.out _ (by omega) (by omega)).mono ?_
  rintro e w2 ⟨A2, c2, rfl, ho2, hb2⟩
  have HS2 := Lib.hid (HS1.out.new hb2 ho2)
  clear hb2 ho2 HS1
  go_wp2_with fail
  refine (DrawJoinStrings_any A n ca _ (sep_code HS2.out HC.out HN.out)).mono ?_
  rintro e w3 ⟨A3, n3, c3, xs, m3, rfl, hn3, hx3, hm3, ho3, hb3⟩
  have hc3 := (ownT_cap ho3).1
  have HS3 := Lib.hid (HS2.out.new hb3 ho3)
  clear hb3 ho3 HS2
  obtain ⟨jb, hjb⟩ : ∃ b, b = joiOk xs m3 := ⟨_, rfl⟩
  obtain ⟨t, ht, _⟩ := selB_mk jb (joiL xs m3)
  have HJB := Lib.hid hjb.symm
  have HT := Lib.hid ht
  clear hjb ht
  go_wp2_with fail
  refine (i_JoinStrings_b HJB.out HT.out A3 n3 c3 _ (HS3.out.rd 1 rfl) (by omega) (by omega) hc3 (by omega)).mono ?_
  rintro e w4 ⟨rfl, hb4⟩
  have HS4 := Lib.hid (HS3.out.below hb4)
  clear hb4 HS3
  go_wp2_with fail
  refine (s_JoinStrings_b HJB.out HT.out A3 n3 c3 _ (HS4.out.rd 1 rfl) (by omega) (by omega) (by omega)).mono ?_
  rintro e w5 ⟨rfl, hb5⟩
  have HS5 := Lib.hid (HS4.out.below hb5)
  clear hb5 HS4
  go_wp2_with fail
  refine (DrawLessString_any A n ca _ (sep_code HS5.out HC.out HN.out)).mono ?_
  rintro e w6 ⟨a, b, ⟨ha, hb⟩, rfl, hb6⟩
  obtain ⟨la, rfl⟩ := bytes_mk a
  obtain ⟨lb, rfl⟩ := bytes_mk b
  have hla : la.length ≤ 10 := by have h1 : la.toArray.size ≤ 10 := ha; simpa using h1
  have hlb : lb.length ≤ 10 := by have h1 : lb.toArray.size ≤ 10 := hb; simpa using h1
  clear ha hb
  have HS6 := Lib.hid (HS5.out.below hb6)
  clear hb6 HS5
  have HNO := Lib.hid (less_no la lb)
  cases hq : Op.bytesLess la lb
  · have HQ := Lib.hid hq
    clear hq
    go_wp2_with fail
    refine (i_LessString_b HQ.out _ (by omega) (by omega)).mono ?_
    rintro e w7 ⟨rfl, hb7⟩
    have HS7 := Lib.hid (HS6.out.below hb7)
    clear hb7 HS6
    go_wp2_with fail
    refine (s_LessString_b HQ.out _ (by omega) (by omega)).mono ?_
    rintro e w8 ⟨rfl, hb8⟩
    have HS8 := Lib.hid (HS7.out.below hb8)
    clear hb8 HS7
    go_wp2_with fail
    refine (i_LessString_b HQ.out _ (by omega) (by omega)).mono ?_
    rintro e w9 ⟨rfl, hb9⟩
    have HS9 := Lib.hid (HS8.out.below hb9)
    clear hb9 HS8
    by_cases h1 : lr.length = 1
    · obtain rfl : ok = true := by rw [← HOK.out]; simp [splOk, h1]; omega
      obtain ⟨hj1, hj2⟩ := split_ok HOK.out
      obtain rfl : splR lq lr = L := HL.out
      have hll := lens_split (l := lq) (m := lr)
      obtain ⟨bb, rfl⟩ : ∃ bb, lr = [bb] := by
        match lr, h1 with
        | [bb], _ => exact ⟨bb, rfl⟩
      have hc2 := (ownT_cap (HS9.out.own 0 _ rfl)).1
      go_wp2_with fail
      refine (i_JoinStrings_b (b := true) (t := lq) hj1 (by rw [hj2]; rfl) A2 k c2 _ (HS9.out.rd 0 rfl) (by omega) (by omega) hc2 (by simp)).mono ?_
      rintro e w11 ⟨rfl, hb11⟩
      go_wp2
      go_ret
      exact ⟨by simp, (HS9.out.below hb11).bel⟩
    · obtain rfl : ok = false := by rw [← HOK.out]; simp [splOk, h1]
      obtain rfl : ([] : List (List UInt8)) = L := HL.out
      obtain rfl : 0 = k := HK.out
      have h2 : ((lr.length : Int) != 1) = true := by simp; omega
      go_wp2
      go_ret
      exact ⟨rfl, HS9.out.bel⟩
  · have HQ := Lib.hid hq
    clear hq
    go_wp2_with fail
    refine (i_LessString_b HQ.out _ (by omega) (by omega)).mono ?_
    rintro e w7 ⟨rfl, hb7⟩
    have HS7 := Lib.hid (HS6.out.below hb7)
    clear hb7 HS6
    go_wp2_with fail
    refine (s_LessString_b HQ.out _ (by omega) (by omega)).mono ?_
    rintro e w8 ⟨rfl, hb8⟩
    have HS8 := Lib.hid (HS7.out.below hb8)
    clear hb8 HS7
    go_wp2_with fail
    refine (i_LessString_b HQ.out _ (by omega) (by omega)).mono ?_
    rintro e w9 ⟨rfl, hb9⟩
    have HS9 := Lib.hid (HS8.out.below hb9)
    clear hb9 HS8
    go_wp2_with fail
    refine (i_LessString_b (b := false) (by cases h : Op.bytesLess lb la; rfl; exact (HNO.out HQ.out h).elim) _ (by omega) (by omega)).mono ?_
    rintro e w10 ⟨rfl, hb10⟩
    have HS10 := Lib.hid (HS9.out.below hb10)
    clear hb10 HS9
    have HS9 := HS10
    by_cases h1 : lr.length = 1
    · obtain rfl : ok = true := by rw [← HOK.out]; simp [splOk, h1]; omega
      obtain ⟨hj1, hj2⟩ := split_ok HOK.out
      obtain rfl : splR lq lr = L := HL.out
      have hll := lens_split (l := lq) (m := lr)
      obtain ⟨bb, rfl⟩ : ∃ bb, lr = [bb] := by
        match lr, h1 with
        | [bb], _ => exact ⟨bb, rfl⟩
      have hc2 := (ownT_cap (HS9.out.own 0 _ rfl)).1
      go_wp2_with fail
      refine (i_JoinStrings_b (b := true) (t := lq) hj1 (by rw [hj2]; rfl) A2 k c2 _ (HS9.out.rd 0 rfl) (by omega) (by omega) hc2 (by simp)).mono ?_
      rintro e w11 ⟨rfl, hb11⟩
      go_wp2
      go_ret
      exact ⟨by simp, (HS9.out.below hb11).bel⟩
    · obtain rfl : ok = false := by rw [← HOK.out]; simp [splOk, h1]
      obtain rfl : ([] : List (List UInt8)) = L := HL.out
      obtain rfl : 0 = k := HK.out
      have h2 : ((lr.length : Int) != 1) = true := by simp; omega
      go_wp2
      go_ret
      exact ⟨rfl, HS9.out.bel⟩
end Go.Proofs.Ytppnmpkefchknaa
