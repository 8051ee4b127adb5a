/- Contracts of the reader of choices: registers. What is drawn is any registers' value with at most four words. -/
import Derived.Test.YtlahpnihnpmgoaaGe
import Derived.Test.YtlahpnihnpmgoaaRb
import Derived.Test.YtlahpnihnpmgoaaRg
import Derived.Deep.AppendLies
namespace Go.Proofs.Ytlahpnihnpmgoaa
open Go.RowKit
set_option linter.unusedVariables false
set_option linter.unusedSimpArgs false
attribute [local go_sem ↓] Go.wp_at_zero Go.wp_at_succ

theorem Bv.grown {w : World} {g : Nat} {wx wy : World} {b : Nat} {t : TypeId} {cs : Array Value} {r : Option Nat} (X : Bv w g wx b t cs) (hg : wx.grownBy wy r) (hr : r ≠ some b) : Bv w g wy b t cs := ⟨X.lo, X.ne, X.box.grown hg hr⟩
theorem own_first {w : World} {B n c m : Nat} {A : Option Addr} {xs : List Int} (h : Own w B (ti A n c xs)) (hm : m ≤ n) (h0 : 0 < n) : Own w B (ti A m c (xs.take m)) := by
  have hl : xs.length = n := h.rd.len
  refine ⟨by show (I (xs.take m)).length = m * 1; rw [I_length, List.length_take]; omega, ?_⟩
  rcases h.2 with ⟨_, h2⟩ | ⟨g', cap, cur, hv, hB, hg, hnc, hcm, hsz, htk⟩
  · exact absurd h2 (by show n ≠ 0; omega)
  · cases hv
    refine .inr ⟨g', c, cur, rfl, hB, hg, Nat.le_trans hm hnc, hcm, hsz, ?_⟩
    rw [Nat.mul_one] at htk ⊢
    have h3 : cur.toList.take n = I xs := htk
    show cur.toList.take m = I (xs.take m)
    rw [← I_take, ← h3, List.take_take, Nat.min_eq_left hm]
/-- one of some numbers that lie in a block -/
theorem among_box {W : World} {B g k : Nat} (lo hi : Int) (n b : Nat) (cs : Array Value) (t : TypeId) (X : Box W b t cs) (h : Cu W B g k) (hb : b ≠ g) (hk : k ≤ 900000) (hn0 : 1 ≤ n) (hn1 : n ≤ 1000) (hn : n ≤ cs.size) (c : Nat) (hs : intsB lo hi cs.toList = true) :
    Calls Try.prog 36 #[.pointer (some ⟨g, 0, none⟩), .slice (some ⟨b, 0, none⟩) n c] W fun e w' => ∃ q : Int, (lo ≤ q ∧ q ≤ hi) ∧ e = .returned (.int .i64 q) ∧ (∃ k', k' ≤ k + 2 ∧ Cu w' B g k') ∧ Far g W w' :=
  among_any (fun q => lo ≤ q ∧ q ≤ hi) b 0 n c h hk hn0 hn1 hb X.lt (fun i hi => by
    obtain ⟨q, hq, he⟩ := ints_at hs (i := i) (by rw [Array.length_toList]; omega)
    refine ⟨q, hq, ?_⟩
    rw [Nat.zero_add, X.cell i, ← Array.getElem?_toList]
    exact he)
/-- inside registers: the words, the variable of the result, the variable of the registers -/
structure Gb (B : Nat) (w : World) (g k gT : Nat) (wx : World) (A : Option Addr) (n c : Nat) (rs : List Int) (a : Int) (z s : Bool) : Prop where
  lr : Lr B w g k wx (ti A n c rs)
  res : Bv w g wx w.heap.size 37 #[.slice none 0 0, .int .i64 0, .bool false, .bool false]
  tv : Bv w g wx gT 37 #[.slice A n c, .int .i64 a, .bool z, .bool s]
  ne : w.heap.size ≠ gT
  na : blk A ≠ some gT
  nr : blk A ≠ some w.heap.size
section
variable {B : Nat} {w : World} {g k k' gT : Nat} {wx wy : World} {A : Option Addr} {n c : Nat} {rs : List Int} {a : Int} {z s : Bool}
theorem Gb.step (T : Gb B w g k gT wx A n c rs a z s) (hc : Cu wy B g k') (hf : Far g wx wy) : Gb B w g k' gT wy A n c rs a z s := ⟨T.lr.step hc hf, T.res.step hf, T.tv.step hf, T.ne, T.na, T.nr⟩
theorem Gb.below (T : Gb B w g k gT wx A n c rs a z s) (hb : Below wx.heap.size wx wy) : Gb B w g k gT wy A n c rs a z s := ⟨T.lr.below hb, T.res.below hb, T.tv.below hb, T.ne, T.na, T.nr⟩
theorem Gb.drew (T : Gb B w g k gT wx A n c rs a z s) : Gb B w g k gT wx.drew A n c rs a z s := T.below (Below.drew (Below.refl _ _))
theorem Gb.alloc (T : Gb B w g k gT wx A n c rs a z s) (o : Obj) : Gb B w g k gT (wx.alloc o) A n c rs a z s := T.below (below_alloc wx o)
theorem Gb.putA (T : Gb B w g k gT wx A n c rs a z s) (u : Int) : Gb B w g k gT (wx.setCell ⟨gT, 1, none⟩ (.int .i64 u)) A n c rs u z s := ⟨T.lr.put T.tv.lo T.na 1 _, T.res.other T.ne _, T.tv.put 1 _, T.ne, T.na, T.nr⟩
theorem Gb.app (T : Gb B w g k gT wx A n c rs a z s) {A' : Option Addr} {n' c' : Nat} {rs' : List Int} (hg : wx.grownBy wy (blk A)) (hat : blk A' = blk A ∨ blk A' = some wx.heap.size) (ho : Own wy w.heap.size (ti A' n' c' rs')) :
    Gb B w g k gT (wy.setCell ⟨gT, 0, none⟩ (.slice A' n' c')) A' n' c' rs' a z s := by
  have h1 := T.tv.box.lt
  have h2 := T.res.box.lt
  have na' : blk A' ≠ some gT := by
    rcases hat with e | e
    · rw [e]; exact T.na
    · rw [e]; intro h; injection h with h; omega
  have nr' : blk A' ≠ some w.heap.size := by
    rcases hat with e | e
    · rw [e]; exact T.nr
    · rw [e]; intro h; injection h with h; omega
  have L2 := T.lr.app (t' := ti A' n' c' rs') hg ho
  exact ⟨L2.put T.tv.lo na' 0 _, (T.res.grown hg T.nr).other T.ne _, (T.tv.grown hg T.na).put 0 _, T.ne, na', nr'⟩
theorem Gb.cut (T : Gb B w g k gT wx A n c rs a z s) {m : Nat} (hm : m ≤ n) (h0 : 0 < n) : Gb B w g k gT (wx.setCell ⟨gT, 0, none⟩ (.slice A m c)) A m c (rs.take m) a z s :=
  ⟨(⟨T.lr.rw, own_first T.lr.own hm h0⟩ : Lr B w g k wx (ti A m c (rs.take m))).put T.tv.lo T.na 0 _, T.res.other T.ne _, T.tv.put 0 _, T.ne, T.na, T.nr⟩
theorem Gb.store (T : Gb B w g k gT wx A n c rs a z s) {g2 j : Nat} (hA : A = some ⟨g2, 0, none⟩) (hj : j < n) (u : Int) : Gb B w g k gT (wx.setCell ⟨g2, j, none⟩ (.int .i64 u)) A n c (rs.set j u) a z s := by
  subst hA
  obtain ⟨_, _, ho, hg⟩ := own_store T.lr.own hj u
  exact ⟨T.lr.app hg ho, T.res.grown hg T.nr, T.tv.grown hg T.na, T.ne, T.na, T.nr⟩
end
def GbAt (B : Nat) (w : World) (g K gT n : Nat) (wx : World) : Prop := ∃ (A : Option Addr) (c : Nat) (rs : List Int) (a : Int) (z s : Bool) (k : Nat), k ≤ K ∧ Gb B w g k gT wx A n c rs a z s
set_option maxRecDepth 100000 in
set_option maxHeartbeats 8000000 in
theorem registers_any {w : World} {B g k : Nat} (Ap : Option Addr) (np cp : Nat) (h : Cu w B g k) (hk : k ≤ 700000) (hnp : np ≤ 1000) :
    Calls Try.prog 35 #[.pointer (some ⟨g, 0, none⟩), .slice Ap np cp] w fun e w' => ∃ (A : Option Addr) (n c : Nat) (rs : List Int) (a : Int) (z s : Bool), e = .returned (regV A n c a z s) ∧ n ≤ 4 ∧ Own w' w.heap.size (ti A n c rs) ∧ (∃ k', k' ≤ k + 60 ∧ Cu w' B g k') ∧ Far g w w' := by
  obtain ⟨i0, hi, hz0, hz1, hz2⟩ := info_parts Try.info3
  have R0 := Lib.hid ((Rw.start h).alloc (.cells #[.slice none 0 0, .int .i64 0, .bool false, .bool false] 37))
  have X0 := Lib.hid (Bv.new (t := 37) (Rw.start h) #[.slice none 0 0, .int .i64 0, .bool false, .bool false])
  clear h
  go_enter Try.func35, Try.ntmps35
  go_wp2_with fail
  refine (pick_any ((np : Int) + 1) R0.out.cu (by omega) (by omega) (by omega)).mono ?_
  rintro e w1 ⟨x, ⟨hx0, hx1, _⟩, rfl, ⟨k1, hk1, hc1⟩, hf1⟩
  have hx2 := hx1 (by omega)
  have R1 := Lib.hid (R0.out.step hc1 hf1)
  have X1 := Lib.hid (X0.out.step hf1)
  clear hc1 hf1 hx1 R0 X0
  go_wp2_with fail
  refine (one_any 2 R1.out.cu (by omega) (by decide) (by decide)).mono ?_
  rintro e w2 ⟨z, rfl, ⟨k2, hk2, hc2⟩, hf2⟩
  have R2 := Lib.hid (R1.out.step hc2 hf2)
  have X2 := Lib.hid (X1.out.step hf2)
  clear hc2 hf2 R1 X1
  go_wp2_with fail
  refine (one_any 12 R2.out.cu (by omega) (by decide) (by decide)).mono ?_
  rintro e w3 ⟨s, rfl, ⟨k3, hk3, hc3⟩, hf3⟩
  have R3 := R2.out.step hc3 hf3
  have X3 := X2.out.step hf3
  have HT4 := Lib.hid (show Gb B w g k3 w3.heap.size (w3.alloc (.cells #[.slice none 0 0, .int .i64 x, .bool z, .bool s] 37)) none 0 0 [] x z s from
    ⟨⟨R3.alloc _, own_nil _ _⟩, X3.alloc _, Bv.new R3 _, by have := R3.size; have := X3.box.lt; omega, by simp [blk], by simp [blk]⟩)
  clear hc3 hf3 R3 X3 R2 X2
  go_upto_region 2 with (fail)
  obtain ⟨w4, hw4⟩ : ∃ w4, w4 = w3.alloc (.cells #[.slice none 0 0, .int .i64 x, .bool z, .bool s] 37) := ⟨_, rfl⟩
  obtain ⟨gT, hgT⟩ : ∃ gT, gT = w3.heap.size := ⟨_, rfl⟩
  rw [← hw4, ← hgT]
  rw [← hw4, ← hgT] at HT4
  clear hw4 hgT
  have C4 := HT4.out.tv.cell
  go_cut [26] from 17 to 25 (fun t wx => ∃ b : Bool, t = .bool b ∧ Hid (GbAt B w g (k + 10) gT 0 wx))
  case first =>
    by_cases hxn : x = (np : Int)
    · have hxb : (x == (np : Int)) = true := by simp [hxn]
      clear hxn
      go_wp2_with fail
      refine (one_any 8 HT4.out.lr.rw.cu (by omega) (by decide) (by decide)).mono ?_
      rintro e w5 ⟨b, rfl, ⟨k5, hk5, hc5⟩, hf5⟩
      have HT5 := Lib.hid (HT4.out.step hc5 hf5)
      clear hc5 hf5
      go_wp2
      go_meet
      exact ⟨_, rfl, Lib.hid ⟨none, 0, [], x, z, s, k5, by omega, HT5.out⟩⟩
    · have hxb : (x == (np : Int)) = false := by simp [hxn]
      clear hxn
      go_wp2
      go_meet
      exact ⟨_, rfl, Lib.hid ⟨none, 0, [], x, z, s, k3, by omega, HT4.out⟩⟩
  case rest =>
  obtain ⟨bt, rfl, HA⟩ := hcut
  clear HT4 C4
  go_upto_if 26 with (fail)
  go_cut [5] from 27 to 27 (fun t wx => t = .pointer (some ⟨gT, 0, none⟩) ∧ Hid (GbAt B w g (k + 10) gT 0 wx))
  case first =>
    cases bt
    · go_wp2
      go_meet
      exact ⟨rfl, HA⟩
    · obtain ⟨A, c, rs, a, z, s, k5, hk5, T⟩ := HA.out
      have HT5 := Lib.hid T
      have C5 := T.tv.cell
      have F5 := T.tv.free
      clear T
      go_wp2
      go_meet
      exact ⟨rfl, Lib.hid ⟨A, c, rs, 0, z, s, k5, hk5, HT5.out.putA 0⟩⟩
  case rest =>
  obtain ⟨rfl, HA2⟩ := hcut
  clear HA
  go_wp2
  go_loopw [6] (fun i wr => ∃ m : Nat, m ≤ 4 ∧ i = .int .i64 m ∧ Hid (GbAt B w g (k + 10 + 2 * m) gT m wr)) (fun i _ => 4 - (intOf i).toNat)
  case atStart => exact ⟨0, by omega, rfl, HA2⟩
  case round =>
    obtain ⟨m, hm, rfl, HAr⟩ := hrel
    clear HA2
    by_cases hlt : m < 4
    · have h0 : (m : Int) < 4 := by omega
      obtain ⟨A, c, rs, a, z, s, k5, hk5, T⟩ := HAr.out
      have HT := Lib.hid T
      clear T HAr
      go_upto_region 7 with (fail)
      have T0 := HT.out.drew
      have T1 := (HT.out.alloc (.cells #[.int .i64 0, .int .i64 1, .int .i64 2, .int .i64 255, .int .i64 4096, .int .i64 32768, .int .i64 65535] 3)).drew
      have X1 := (Box.new wr 3 #[.int .i64 0, .int .i64 1, .int .i64 2, .int .i64 255, .int .i64 4096, .int .i64 32768, .int .i64 65535]).drew
      have C0 := T0.tv.cell
      have C1 := T1.tv.cell
      have N1 := HT.out.lr.rw.cu.lt
      go_region_law (first
        | (refine step_app rfl (.tmp 33) (.tmp 37) 24 rfl w.heap.size 3 i0 (.int .i64 0) 1 8 Try.underlying24 hi hz0 hz1 hz2 rfl (by decide) _ _ _ _ rfl T7.lr.own _ _ _ _ rfl (Rd.one _ _ _) (by simp [Value.oneCell']) (by unfold maxLen; omega) (by omega) T7.lr.rw.size ?_; intro A9 c9 w9 hown9 hgrow9 hat9; have T9 := T7.app hgrow9 hat9 (own_int hown9); have C9 := (T7.tv.grown hgrow9 T7.na).cell; have F9 := (T7.tv.grown hgrow9 T7.na).free)
        | (go_simp; go_at_call 36; refine (among_box 0 65535 7 _ _ _ X1 T1.lr.rw.cu (by omega) (by omega) (by omega) (by omega) (by decide) _ (by decide)).mono ?_; rintro e w6 ⟨q, _, rfl, ⟨k6, hk6, hc6⟩, hf6⟩; have T6 := T1.step hc6 hf6; have C6 := T6.tv.cell; have T7 := T6.alloc (.cells #[.int .i64 q] 3); have C7 := T7.tv.cell))
      all_goals
        have HT9 := Lib.hid T9
        clear T0 T1 X1 C0 C1 T6 C6 T7 C7 hown9 hgrow9 hat9
        go_wp2
        go_roundw
        case rel => exact ⟨m + 1, by omega, by go_num, Lib.hid ⟨A9, c9, _, a, z, s, k6, by omega, HT9.out⟩⟩
        case measure => simp [intOf]; omega
    · obtain rfl : m = 4 := by omega
      obtain ⟨A, c, rs, a, z, s, k5, hk5, T⟩ := HAr.out
      have HT := Lib.hid T
      clear T HAr
      go_wp2_with fail
      refine (pick_any 40 HT.out.lr.rw.cu (by omega) (by decide) (by decide)).mono ?_
      rintro e w6 ⟨y, ⟨hy0, _, _⟩, rfl, ⟨k6, hk6, hc6⟩, hf6⟩
      have HT6 := Lib.hid (HT.out.step hc6 hf6)
      clear hc6 hf6 HT
      go_upto_block 2 with (fail)
      go_cut [5] from 42 to 58 (fun t wx => t = .pointer (some ⟨gT, 0, none⟩) ∧ ∃ n : Nat, n ≤ 4 ∧ Hid (GbAt B w g (k + 30) gT n wx))
      case first =>
        have hy : y = 0 ∨ y = 1 ∨ y = 2 ∨ 2 < y := by omega
        obtain ⟨g2, rfl, _, _⟩ := own_someS HT6.out.lr.own (by show 0 < 4; omega)
        have hc4 := (ti_cap HT6.out.lr.own).1
        have C6 := HT6.out.tv.cell
        have F6 := HT6.out.tv.free
        rcases hy with rfl | rfl | rfl | hy
        · go_upto_region 10 with (fail)
          clear C6 F6
          have T0 := HT6.out.drew
          have T1 := (HT6.out.alloc (.cells #[.int .i64 (-1), .int .i64 65536] 3)).drew
          have X1 := (Box.new w6 3 #[.int .i64 (-1), .int .i64 65536]).drew
          have C0 := T0.tv.cell
          have C1 := T1.tv.cell
          have N1 := HT6.out.lr.rw.cu.lt
          go_region_law (first
            | (go_simp; go_at_call 36; refine (among_box (-1) 65536 2 _ _ _ X1 T1.lr.rw.cu (by omega) (by omega) (by omega) (by omega) (by decide) _ (by decide)).mono ?_; rintro e w7 ⟨q, _, rfl, ⟨k7, hk7, hc7⟩, hf7⟩; have T7 := T1.step hc7 hf7; have C7 := T7.tv.cell; obtain ⟨⟨y7, hy7⟩, hfz7, _, _⟩ := own_store T7.lr.own (k := 0) (by omega) q))
          all_goals
            have HT9 := Lib.hid (T7.store rfl (j := 0) (by omega) q)
            clear T0 T1 X1 C0 C1 T7 C7
            go_wp2
            go_meet
            exact ⟨rfl, 4, by omega, Lib.hid ⟨_, c, _, a, z, s, k7, by omega, HT9.out⟩⟩
        · have HT9 := Lib.hid (HT6.out.cut (m := 3) (by omega) (by omega))
          have hc3 : 3 ≤ c := by omega
          go_wp2
          go_meet
          exact ⟨rfl, 3, by omega, Lib.hid ⟨_, c, _, a, z, s, k6, by omega, HT9.out⟩⟩
        · have HT9 := Lib.hid (HT6.out.putA (-1))
          go_wp2
          go_meet
          exact ⟨rfl, 4, by omega, Lib.hid ⟨_, c, _, _, z, s, k6, by omega, HT9.out⟩⟩
        · have y0 : (y == 0) = false := by simp; omega
          have y1 : (y == 1) = false := by simp; omega
          have y2 : (y == 2) = false := by simp; omega
          go_wp2
          go_meet
          exact ⟨rfl, 4, by omega, Lib.hid ⟨_, c, _, a, z, s, k6, by omega, HT6.out⟩⟩
      case rest =>
        obtain ⟨rfl, n9, hn9, HA9⟩ := hcut
        clear HT6
        obtain ⟨A, c, rs, a, z, s, k9, hk9, T⟩ := HA9.out
        have HT := Lib.hid T
        clear T HA9
        have C := HT.out.tv.cell
        have D := HT.out.res.cell
        have E := HT.out.res.free
        have HL := Lib.hid ((((HT.out.lr.put (Nat.le_refl _) HT.out.nr 0 (.slice A n9 c)).put (Nat.le_refl _) HT.out.nr 1 (.int .i64 a)).put (Nat.le_refl _) HT.out.nr 2 (.bool z)).put (Nat.le_refl _) HT.out.nr 3 (.bool s))
        go_wp2
        refine bodyPost_ret (v := regV A n9 c a z s) (by simp [results, Try.results35, go_sem, C, D]) rfl ⟨A, n9, c, rs, a, z, s, rfl, hn9, HL.out.own, HL.out.rw.out (by omega)⟩
end Go.Proofs.Ytlahpnihnpmgoaa
