/- Contracts of the reader of choices: registers5, deviceTrap. -/
import Derived.Test.YtcdocgmikpccoaaDv
namespace Go.Proofs.Ytcdocgmikpccoaa
open Go.RowKit
set_option linter.unusedVariables false
set_option linter.unusedSimpArgs false

theorem own_int {w : World} {B n c : Nat} {A : Option Addr} {xs : List Int} {x : Int} (h : w.ownsRow B 3 1 (.slice A (n + 1) c) (n + 1) (I xs ++ [.int .i64 x])) : Own w B (ti A (n + 1) c (xs ++ [x])) := by
  show w.ownsRow B _ 1 _ _ (I (xs ++ [x]))
  rw [I_append]; exact h
theorem own_pre {w : World} {B n m c : Nat} {A : Option Addr} {xs : List Int} (h : Own w B (ti A n c xs)) (hm : m ≤ n) : Own w B (ti A m c (xs.take m)) := by
  have hl : xs.length = n := h.rd.len
  refine ⟨by show (I (xs.take m)).length = m * 1; rw [I_length, List.length_take]; omega, ?_⟩
  rcases h.2 with ⟨hv, h0⟩ | ⟨g, cap, cur, hv, hB, hg, hnc, hcm, hsz, htk⟩
  · have h0' : n = 0 := h0
    have hm0 : m = 0 := by omega
    simp only [Value.slice.injEq] at hv
    obtain ⟨hA, _, hc⟩ := hv
    refine .inl ⟨?_, hm0⟩
    show Value.slice A m c = .slice none 0 0
    rw [hA, hm0, hc]
  · simp only [Value.slice.injEq] at hv
    obtain ⟨hA, _, hc⟩ := hv
    have hnc' : n ≤ cap := hnc
    have htk' : cur.toList.take (n * 1) = I xs := htk
    refine .inr ⟨g, cap, cur, ?_, hB, hg, by show m ≤ cap; omega, hcm, hsz, ?_⟩
    · show Value.slice A m c = .slice (some ⟨g, 0, none⟩) m cap
      rw [hA, hc]
    · show cur.toList.take (m * 1) = I (xs.take m)
      rw [← I_take, ← htk', List.take_take]
      congr 1
      omega

set_option maxRecDepth 100000 in
set_option maxHeartbeats 4000000 in
theorem registers5_any {w : World} {B g k : Nat} (h : Cu w B g k) (hk : k ≤ 700000) :
    Calls Try.prog 85 #[.pointer (some ⟨g, 0, none⟩)] w fun e w' => ∃ (A : Option Addr) (n c : Nat) (xs : List Int), e = .returned (.slice A n c) ∧ n ≤ 4 ∧ Own w' w.heap.size (ti A n c xs) ∧ (∃ k', k' ≤ k + 20 ∧ Cu w' B g k') ∧ Far g w w' := by
  obtain ⟨i0, hi, hz0, hz1, hz2⟩ := info_parts Try.info3
  have HL := Lib.hid (show Lr B w g k (w.alloc (.cells #[] 3)) (ti (some ⟨w.heap.size, 0, none⟩) 0 0 []) from ⟨(Rw.start h).alloc _, own_empty 1 (Box.new w _ _) (Nat.le_refl _)⟩)
  have HLT := Lib.hid h.lt
  clear h
  go_enter Try.func85, Try.ntmps85
  go_wp2
  go_loopw [3, 4] (fun o i wr => ∃ (l kk c : Nat) (A : Option Addr) (xs : List Int), l ≤ 4 ∧ i = .int .i64 l ∧ o = .slice A l c ∧ kk ≤ k + 2 * l ∧ Hid (Lr B w g kk wr (ti A l c xs))) (fun _ i _ => 4 - (intOf i).toNat)
  case atStart => exact ⟨0, k, 0, _, [], by omega, rfl, rfl, by omega, HL⟩
  case round =>
    obtain ⟨l, kk, c, A, xs, hl, rfl, rfl, hkk, HLr⟩ := hrel
    clear HL
    by_cases hlt : l < 4
    · have h0 : (l : Int) < 4 := by omega
      go_wp2_with fail
      refine (among_lit 0 65535 6 _ _ HLr.out.rw.cu (by omega) rfl (by omega) (by omega) (by decide)).mono ?_
      rintro e w3 ⟨q, _, rfl, ⟨k3, hk3, hc3⟩, hf3⟩
      have HL3 := Lib.hid (HLr.out.step hc3 hf3)
      clear hc3 hf3 HLr
      have hs3 := HL3.out.rw.size
      go_wp2_with (at_builtin; refine wpList_app _ rfl _ _ 36 rfl w.heap.size 3 i0 (.int .i64 0) 1 8 Try.underlying36 hi hz0 hz1 hz2 rfl (by decide) _ _ _ _ rfl (World.ownsRow.alloc HL3.out.own _) _ _ _ _ rfl (Rd.one _ _ _) (by simp [Value.oneCell']) (by unfold maxLen; omega) (by omega) (by simp; omega) ?_; intro A' c' w9 hown hgrow hat)
      have HL9 := Lib.hid ((HL3.out.alloc _).app hgrow (own_int hown))
      clear hgrow hown hat
      go_wp2
      go_roundw
      case rel => exact ⟨l + 1, k3, _, _, _, by omega, by go_num, rfl, by omega, HL9⟩
      case measure => simp [intOf]; omega
    · obtain rfl : l = 4 := by omega
      go_wp2_with fail
      refine (pick_any 40 HLr.out.rw.cu (by omega) (by decide) (by decide)).mono ?_
      rintro e w3 ⟨y, ⟨hy0, _, _⟩, rfl, ⟨k3, hk3, hc3⟩, hf3⟩
      have HL3 := Lib.hid (HLr.out.step hc3 hf3)
      clear hc3 hf3 HLr
      have hA2 := own_someS HL3.out.own (by show 0 < 4; omega)
      obtain ⟨gA, hA, hgB, hgl⟩ := hA2
      subst hA
      have hcap : 4 ≤ c := (own_cap HL3.out.own).1
      have hy : y = 0 ∨ y = 1 ∨ 1 < y := by omega
      rcases hy with rfl | rfl | hy
      · have h3c : (3 : Int) ≤ (c : Int) := by omega
        go_wp2
        go_ret
        exact ⟨_, 3, c, _, rfl, by omega, own_pre HL3.out.own (by omega), ⟨k3, by omega, HL3.out.rw.cu⟩, HL3.out.rw.far⟩
      · go_wp2_with fail
        refine (among_lit (-1) 65536 2 _ _ HL3.out.rw.cu (by omega) rfl (by omega) (by omega) (by decide)).mono ?_
        rintro e w5 ⟨q, _, rfl, ⟨k5, hk5, hc5⟩, hf5⟩
        have HL5 := Lib.hid (HL3.out.step hc5 hf5)
        clear hc5 hf5 HL3
        have cA : ∃ u, w5.cell? ⟨gA, 3, none⟩ = some u := by
          have h1 := World.ownsRow.cellAt HL5.out.own 3 (by show 3 < 4 * 1; omega)
          have h2 : 3 < (I xs).length := by have := HL5.out.own.1; have e : (I xs).length = 4 * 1 := this; omega
          exact ⟨_, h1.trans (List.getElem?_eq_getElem h2)⟩
        obtain ⟨u, cA⟩ := cA
        have fA := World.ownsRow.frozenAt HL5.out.own 3
        have hs := World.ownsRow.stored HL5.out.own 3 (.int .i64 q)
        rw [I_set] at hs
        have HL6 := Lib.hid (HL5.out.app hs.2 (t' := ti (some ⟨gA, 0, none⟩) 4 c (xs.set 3 q)) hs.1)
        clear hs HL5
        go_wp2
        go_ret
        exact ⟨_, 4, c, _, rfl, by omega, HL6.out.own, ⟨k5, by omega, HL6.out.rw.cu⟩, HL6.out.rw.far⟩
      · have y0 : (y == 0) = false := by simp; omega
        have y1 : (y == 1) = false := by simp; omega
        go_wp2
        go_ret
        exact ⟨_, 4, c, _, rfl, by omega, HL3.out.own, ⟨k3, by omega, HL3.out.rw.cu⟩, HL3.out.rw.far⟩

set_option maxRecDepth 100000 in
set_option maxHeartbeats 4000000 in
theorem deviceTrap_any {w : World} {B g k : Nat} (h : Cu w B g k) (hk : k ≤ 600000) :
    Calls Try.prog 84 #[.pointer (some ⟨g, 0, none⟩)] w fun e w' => ∃ (c wi : Int) (s : Bool) (r i : Int), e = .returned (trapV c wi s r i) ∧ (∃ k', k' ≤ k + 40 ∧ Cu w' B g k') ∧ Far g w w' := by
  have R0 := Lib.hid ((Rw.start h).alloc (.cells (trA 0 0 false 0 0) 35))
  have X0 := Lib.hid (Bv.new (t := 35) (Rw.start h) (trA 0 0 false 0 0))
  clear h
  go_enter Try.func84, Try.ntmps84
  go_wp2_with fail
  refine (trap_any R0.out.cu (by omega)).mono ?_
  rintro e w1 ⟨c, wi, s, r, i, rfl, ⟨k1, hk1, hc1⟩, hf1⟩
  have R1 := R0.out.step hc1 hf1
  have HT2 := Lib.hid (show Tb B w g k1 w1.heap.size (w1.alloc (.cells (trA c wi s r i) 35)) c wi s r i from
    ⟨R1.alloc _, (X0.out.step hf1).alloc _, Bv.new R1 _, by have := R1.size; have := (X0.out.step hf1).box.lt; omega⟩)
  clear R0 X0 R1 hc1 hf1
  go_upto_region 2 with (fail)
  obtain ⟨w2, hw2⟩ : ∃ w2, w2 = w1.alloc (.cells #[.int .i64 c, .int .i64 wi, .bool s, .int .i64 r, .int .i64 i] 35) := ⟨_, rfl⟩
  obtain ⟨gT, hgT⟩ : ∃ gT, gT = w1.heap.size := ⟨_, rfl⟩
  rw [← hw2, ← hgT] at HT2
  rw [← hw2, ← hgT]
  clear hw2 hgT
  have C2 := HT2.out.tv.cell
  by_cases h3 : c = 3
  · subst h3
    have D2 := HT2.out.res.cell
    have E2 := HT2.out.res.free
    go_wp2
    refine bodyPost_ret (v := trapV 3 wi s r i) (by simp [results, Try.results84, go_sem, C2, D2]) rfl ⟨_, _, _, _, _, rfl, (HT2.out.rw.put5 _ _ _ _ _).out (by omega)⟩
  · have t3 : (c != 3) = true := by simp [h3]
    clear h3
    go_wp2_with fail
    refine (one_any 4 HT2.out.rw.cu (by omega) (by decide) (by decide)).mono ?_
    rintro e w3 ⟨b, rfl, ⟨k3, hk3, hc3⟩, hf3⟩
    have HT3 := Lib.hid (HT2.out.step hc3 hf3)
    clear hc3 hf3 HT2 C2
    cases b
    · go_wp2_with fail
      refine (among_lit 1 4 3 _ _ HT3.out.rw.cu (by omega) rfl (by omega) (by omega) (by decide)).mono ?_
      rintro e w5 ⟨q, _, rfl, ⟨k5, hk5, hc5⟩, hf5⟩
      have HT5 := Lib.hid (HT3.out.step hc5 hf5)
      clear hc5 hf5 HT3
      go_wp2_with fail
      refine (pick_any 4 HT5.out.rw.cu (by omega) (by decide) (by decide)).mono ?_
      rintro e w6 ⟨z, _, rfl, ⟨k6, hk6, hc6⟩, hf6⟩
      have HT6 := Lib.hid (HT5.out.step hc6 hf6)
      clear hc6 hf6 HT5
      go_wp2_with fail
      refine (one_any 2 HT6.out.rw.cu (by omega) (by decide) (by decide)).mono ?_
      rintro e w7 ⟨b, rfl, ⟨k7, hk7, hc7⟩, hf7⟩
      have HT7 := Lib.hid (HT6.out.step hc7 hf7)
      clear hc7 hf7 HT6
      have D2 := HT7.out.res.cell
      have E2 := HT7.out.res.free
      go_wp2
      refine bodyPost_ret (v := trapV 3 q b z 8) (by simp [results, Try.results84, go_sem, D2]) rfl ⟨_, _, _, _, _, rfl, (HT7.out.rw.put5 _ _ _ _ _).out (by omega)⟩
    · have C3 := HT3.out.tv.cell
      have D2 := HT3.out.res.cell
      have E2 := HT3.out.res.free
      go_wp2
      refine bodyPost_ret (v := trapV c wi s r i) (by simp [results, Try.results84, go_sem, C3, D2]) rfl ⟨_, _, _, _, _, rfl, (HT3.out.rw.put5 _ _ _ _ _).out (by omega)⟩
end Go.Proofs.Ytcdocgmikpccoaa
