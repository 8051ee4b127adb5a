/- Contract of l1Put for a number that the list lacks: the list in new memory with the number at its place. Lengths at most 2^20. -/
import Derived.Test.YtlahpnihnpmgoaaRb
namespace Go.Proofs.Ytlahpnihnpmgoaa
open Go.RowKit
set_option linter.unusedVariables false
set_option linter.unusedSimpArgs false

theorem Rd.grown {w w' : World} {size n : Nat} {b : Nat} {xs : List Value} {r : Option Nat} (h : Rd w size (some ⟨b, 0, none⟩) n xs) (hg : w.grownBy w' r) (hb : b < w.heap.size) (hr : r ≠ some b) : Rd w' size (some ⟨b, 0, none⟩) n xs := by
  refine ⟨h.1, fun hn => ?_⟩
  obtain ⟨b', o', hA, hl, hc⟩ := h.2 hn
  cases hA
  refine ⟨b, 0, rfl, Nat.lt_of_lt_of_le hl hg.size, fun j u hu => ?_⟩
  rw [World.cell?_of_block (w := w) (hg.block b hl (fun e => hr e.symm))]
  exact hc j u hu
theorem Rd.from2 {w : World} {n b o c : Nat} {xs : List Int} (h : Rd w 1 (some ⟨b, o, none⟩) n (I xs)) {k : Nat} (hk : k ≤ n) (hnc : n ≤ c) : Rd w 1 (if c = k then some ⟨b, o, none⟩ else some ⟨b, o + k, none⟩) (n - k) (I (xs.drop k)) := by
  split
  · have hl := h.len
    have e : xs.drop k = [] := List.drop_eq_nil_of_le (by omega)
    have e2 : n - k = 0 := by omega
    rw [e, e2]
    exact Rd.nil_ _ _ _
  · exact h.from_ hk
set_option maxRecDepth 100000 in
set_option maxHeartbeats 8000000 in
theorem l1Put_new (b o n c : Nat) (xs : List Int) (x : Int) (w : World) (hr : Rd w 1 (some ⟨b, o, none⟩) n (I xs)) (hn : n ≤ 1048576) (hnc : n ≤ c) (hx : ¬ x ∈ xs) (hb0 : b < w.heap.size) :
    Calls Try.prog 29 #[.slice (some ⟨b, o, none⟩) n c, .int .i64 x] w fun e w' => ∃ A' c', e = .returned (.slice A' (n + 1) c') ∧ Own w' w.heap.size (ti A' (n + 1) c' (putL xs x)) ∧ Below w.heap.size w w' := by
  have hl := hr.len
  have HX := Lib.hid hx
  clear hx
  obtain ⟨i0, hi, hz0, hz1, hz2⟩ := info_parts Try.info3
  go_enter Try.func29, Try.ntmps29
  go_wp2
  go_loopw [5] (fun i wr => ∃ k : Nat, k ≤ n ∧ i = .int .i64 k ∧ Hid (∀ (j : Nat) (y : Int), j < k → xs[j]? = some y → y < x) ∧ w = wr) (fun i _ => n - (intOf i).toNat)
  case atStart => exact ⟨0, Nat.zero_le _, rfl, Lib.hid (fun j y hj => absurd hj (Nat.not_lt_zero _)), rfl⟩
  case round =>
    obtain ⟨k, hk, rfl, HT, rfl⟩ := hrel
    have h0 : (0 : Int) ≤ (k : Int) := by omega
    by_cases hlt : k < n
    · obtain ⟨b', o', y, he, hbl, hyk, hc⟩ := hr.at_ hlt
      cases he
      have h1 : (k : Int) < (n : Int) := by omega
      by_cases hyx : y < x
      · have HT2 := Lib.hid (show ∀ (j : Nat) (z : Int), j < k + 1 → xs[j]? = some z → z < x from fun j z hj hz => by
          by_cases e : j = k
          · subst e; rw [hyk.out] at hz; obtain rfl := Option.some.inj hz; exact hyx
          · exact HT.out j z (by omega) hz)
        go_wp2
        go_roundw
        case rel => exact ⟨k + 1, by omega, by go_num, HT2, by first | rfl | trivial⟩
        case measure => simp [intOf]; omega
      · have hne : (y == x) = false := by
          have : ¬ y = x := fun e => HX.out (by rw [← e]; exact List.mem_of_getElem? hyk.out)
          simp [this]
        have HP := Lib.hid (putL_split HX.out HT.out (fun z hz => by rw [hyk.out] at hz; obtain rfl := Option.some.inj hz; exact hyx) (by omega))
        go_wp2_with fail
        have HK := Lib.hid hk
        have hkc : k ≤ c := by omega
        have hA1 : Own ((w.alloc (.cells #[] 3)).drew) w.heap.size (ti (some ⟨w.heap.size, 0, none⟩) 0 0 []) := own_empty 1 (Box.new w _ _).drew (Nat.le_refl _)
        have hA2 : Own (((w.alloc (.cells #[] 3)).alloc (.cells #[.int .i64 x] 3)).drew) w.heap.size (ti (some ⟨w.heap.size, 0, none⟩) 0 0 []) := World.ownsRow.alloc (own_empty (w := w.alloc (.cells #[] 3)) 1 (Box.new w _ _) (Nat.le_refl _)) _
        have hA3 : Own (((w.alloc (.cells #[.int .i64 x] 3)).alloc (.cells #[] 3)).drew) w.heap.size (ti (some ⟨w.heap.size + 1, 0, none⟩) 0 0 []) := own_empty 1 (Box.new1 w _ _ _).drew (Nat.le_succ _)
        have hb1 : Below w.heap.size w ((w.alloc (.cells #[] 3)).drew) := (below_alloc w _).drew
        have hb2 : Below w.heap.size w (((w.alloc (.cells #[] 3)).alloc (.cells #[.int .i64 x] 3)).drew) := (below_next (below_alloc w _) (below_alloc _ _)).drew
        have hb3 : Below w.heap.size w (((w.alloc (.cells #[.int .i64 x] 3)).alloc (.cells #[] 3)).drew) := (below_next (below_alloc w _) (below_alloc _ _)).drew
        have hr1 := (hr.keep hb1).take_ hk
        have hr2 := (hr.keep hb2).take_ hk
        have hr3 := (hr.keep hb3).take_ hk
        have hX2 : Rd (((w.alloc (.cells #[] 3)).alloc (.cells #[.int .i64 x] 3)).drew) 1 (some ⟨w.heap.size + 1, 0, none⟩) 1 [.int .i64 x] := by
          have := (Rd.one (w.alloc (.cells #[] 3)) (.int .i64 x) 3).drew
          rwa [show (w.alloc (.cells #[] 3)).heap.size = w.heap.size + 1 by simp] at this
        have hX3 : Rd (((w.alloc (.cells #[.int .i64 x] 3)).alloc (.cells #[] 3)).drew) 1 (some ⟨w.heap.size, 0, none⟩) 1 [.int .i64 x] := ((Rd.one w (.int .i64 x) 3).keep (below_alloc _ _)).drew
        have hk2 : ((n : Int) - (k : Int)).toNat = n - k := by omega
        go_region_law (first
          | (refine step_app rfl (.tmp 33) (.tmp 36) 24 rfl w.heap.size 3 i0 (.int .i64 0) 1 8 Try.underlying24 hi hz0 hz1 hz2 rfl (by decide) _ _ _ _ rfl hA1 _ _ _ _ rfl hr1 (I_one _) (by unfold maxLen; omega) (by omega) (by simp) ?_; intro A1 c1 w1 hown1 hgrow1 hat1; have hB1 := below_app hb1 (by simp) hA1 hgrow1; have hX1 := True.intro; rw [Nat.zero_add] at hown1)
          | (refine step_app rfl (.tmp 33) (.tmp 36) 24 rfl w.heap.size 3 i0 (.int .i64 0) 1 8 Try.underlying24 hi hz0 hz1 hz2 rfl (by decide) _ _ _ _ rfl hA2 _ _ _ _ rfl hr2 (I_one _) (by unfold maxLen; omega) (by omega) (by simp; omega) ?_; intro A1 c1 w1 hown1 hgrow1 hat1; have hB1 := below_app hb2 (by simp; omega) hA2 hgrow1; have hX1 := hX2.grown hgrow1 (by simp) (by simp [blk]); rw [Nat.zero_add] at hown1)
          | (refine step_app rfl (.tmp 33) (.tmp 36) 24 rfl w.heap.size 3 i0 (.int .i64 0) 1 8 Try.underlying24 hi hz0 hz1 hz2 rfl (by decide) _ _ _ _ rfl hA3 _ _ _ _ rfl hr3 (I_one _) (by unfold maxLen; omega) (by omega) (by simp; omega) ?_; intro A1 c1 w1 hown1 hgrow1 hat1; have hB1 := below_app hb3 (by simp; omega) hA3 hgrow1; have hX1 := hX3.grown hgrow1 (by simp; omega) (by simp [blk]); rw [Nat.zero_add] at hown1)
          | (refine step_app rfl (.tmp 37) (.tmp 39) 24 rfl w.heap.size 3 i0 (.int .i64 0) 1 8 Try.underlying24 hi hz0 hz1 hz2 rfl (by decide) _ _ _ _ rfl (World.ownsRow.alloc hown1 _) _ _ _ _ rfl (Rd.one w1 _ _) (by simp [Value.oneCell']) (by unfold maxLen; omega) (by omega) (by have := hB1.size; simp; omega) ?_; intro A2 c2 w2 hown2 hgrow2 hat2; have hB2 := below_app (below_next hB1 (below_alloc w1 _)) (by have := hB1.size; simp; omega) (World.ownsRow.alloc hown1 _) hgrow2)
          | (refine step_app rfl (.tmp 37) (.tmp 39) 24 rfl w.heap.size 3 i0 (.int .i64 0) 1 8 Try.underlying24 hi hz0 hz1 hz2 rfl (by decide) _ _ _ _ rfl hown1 _ _ _ _ rfl hX1 (by simp [Value.oneCell']) (by unfold maxLen; omega) (by omega) hB1.size ?_; intro A2 c2 w2 hown2 hgrow2 hat2; have hB2 := below_app hB1 hB1.size hown1 hgrow2)
          | (refine step_app rfl (.tmp 40) (.tmp 43) 24 rfl w.heap.size 3 i0 (.int .i64 0) 1 8 Try.underlying24 hi hz0 hz1 hz2 rfl (by decide) _ _ _ _ rfl hown2 _ _ _ _ rfl ((hr.keep hB2).from2 hk hnc) (I_one _) (by unfold maxLen; omega) (by omega) hB2.size ?_; intro A3 c3 w3 hown3 hgrow3 hat3; have hB3 := below_app hB2 hB2.size hown2 hgrow3))
        all_goals
          have HO3 := Lib.hid hown3
          have HB3 := Lib.hid hB3
          clear hown1 hown2 hown3 hgrow1 hgrow2 hgrow3 hat1 hat2 hat3 hB1 hB2 hB3 hA1 hA2 hA3 hb1 hb2 hb3 hr1 hr2 hr3 hX1 hX2 hX3
          go_wp2
          all_goals
            go_ret
            have e : k + 1 + (n - k) = n + 1 := by omega
            refine ⟨A3, c3, by first | rfl | (rw [e]; rfl) | rw [e], ?_, HB3.out⟩
            have h9 := HO3.out
            rw [e] at h9
            show World.ownsRow _ _ _ 1 _ _ (I (putL xs x))
            rw [HP.out, I_append]
            have e2 : I (x :: xs.drop k) = [Value.int .i64 x] ++ I (xs.drop k) := rfl
            rw [e2, ← List.append_assoc]
            exact h9
    · have HP := Lib.hid (putL_split HX.out HT.out (fun z hz => by rw [List.getElem?_eq_none (by omega)] at hz; cases hz) (by omega))
      go_wp2_with fail
      have HK := Lib.hid hk
      have hkc : k ≤ c := by omega
      have hA1 : Own ((w.alloc (.cells #[] 3)).drew) w.heap.size (ti (some ⟨w.heap.size, 0, none⟩) 0 0 []) := own_empty 1 (Box.new w _ _).drew (Nat.le_refl _)
      have hA2 : Own (((w.alloc (.cells #[] 3)).alloc (.cells #[.int .i64 x] 3)).drew) w.heap.size (ti (some ⟨w.heap.size, 0, none⟩) 0 0 []) := World.ownsRow.alloc (own_empty (w := w.alloc (.cells #[] 3)) 1 (Box.new w _ _) (Nat.le_refl _)) _
      have hA3 : Own (((w.alloc (.cells #[.int .i64 x] 3)).alloc (.cells #[] 3)).drew) w.heap.size (ti (some ⟨w.heap.size + 1, 0, none⟩) 0 0 []) := own_empty 1 (Box.new1 w _ _ _).drew (Nat.le_succ _)
      have hb1 : Below w.heap.size w ((w.alloc (.cells #[] 3)).drew) := (below_alloc w _).drew
      have hb2 : Below w.heap.size w (((w.alloc (.cells #[] 3)).alloc (.cells #[.int .i64 x] 3)).drew) := (below_next (below_alloc w _) (below_alloc _ _)).drew
      have hb3 : Below w.heap.size w (((w.alloc (.cells #[.int .i64 x] 3)).alloc (.cells #[] 3)).drew) := (below_next (below_alloc w _) (below_alloc _ _)).drew
      have hr1 := (hr.keep hb1).take_ hk
      have hr2 := (hr.keep hb2).take_ hk
      have hr3 := (hr.keep hb3).take_ hk
      have hX2 : Rd (((w.alloc (.cells #[] 3)).alloc (.cells #[.int .i64 x] 3)).drew) 1 (some ⟨w.heap.size + 1, 0, none⟩) 1 [.int .i64 x] := by
        have := (Rd.one (w.alloc (.cells #[] 3)) (.int .i64 x) 3).drew
        rwa [show (w.alloc (.cells #[] 3)).heap.size = w.heap.size + 1 by simp] at this
      have hX3 : Rd (((w.alloc (.cells #[.int .i64 x] 3)).alloc (.cells #[] 3)).drew) 1 (some ⟨w.heap.size, 0, none⟩) 1 [.int .i64 x] := ((Rd.one w (.int .i64 x) 3).keep (below_alloc _ _)).drew
      have hk2 : ((n : Int) - (k : Int)).toNat = n - k := by omega
      go_region_law (first
        | (refine step_app rfl (.tmp 33) (.tmp 36) 24 rfl w.heap.size 3 i0 (.int .i64 0) 1 8 Try.underlying24 hi hz0 hz1 hz2 rfl (by decide) _ _ _ _ rfl hA1 _ _ _ _ rfl hr1 (I_one _) (by unfold maxLen; omega) (by omega) (by simp) ?_; intro A1 c1 w1 hown1 hgrow1 hat1; have hB1 := below_app hb1 (by simp) hA1 hgrow1; have hX1 := True.intro; rw [Nat.zero_add] at hown1)
        | (refine step_app rfl (.tmp 33) (.tmp 36) 24 rfl w.heap.size 3 i0 (.int .i64 0) 1 8 Try.underlying24 hi hz0 hz1 hz2 rfl (by decide) _ _ _ _ rfl hA2 _ _ _ _ rfl hr2 (I_one _) (by unfold maxLen; omega) (by omega) (by simp; omega) ?_; intro A1 c1 w1 hown1 hgrow1 hat1; have hB1 := below_app hb2 (by simp; omega) hA2 hgrow1; have hX1 := hX2.grown hgrow1 (by simp) (by simp [blk]); rw [Nat.zero_add] at hown1)
        | (refine step_app rfl (.tmp 33) (.tmp 36) 24 rfl w.heap.size 3 i0 (.int .i64 0) 1 8 Try.underlying24 hi hz0 hz1 hz2 rfl (by decide) _ _ _ _ rfl hA3 _ _ _ _ rfl hr3 (I_one _) (by unfold maxLen; omega) (by omega) (by simp; omega) ?_; intro A1 c1 w1 hown1 hgrow1 hat1; have hB1 := below_app hb3 (by simp; omega) hA3 hgrow1; have hX1 := hX3.grown hgrow1 (by simp; omega) (by simp [blk]); rw [Nat.zero_add] at hown1)
        | (refine step_app rfl (.tmp 37) (.tmp 39) 24 rfl w.heap.size 3 i0 (.int .i64 0) 1 8 Try.underlying24 hi hz0 hz1 hz2 rfl (by decide) _ _ _ _ rfl (World.ownsRow.alloc hown1 _) _ _ _ _ rfl (Rd.one w1 _ _) (by simp [Value.oneCell']) (by unfold maxLen; omega) (by omega) (by have := hB1.size; simp; omega) ?_; intro A2 c2 w2 hown2 hgrow2 hat2; have hB2 := below_app (below_next hB1 (below_alloc w1 _)) (by have := hB1.size; simp; omega) (World.ownsRow.alloc hown1 _) hgrow2)
        | (refine step_app rfl (.tmp 37) (.tmp 39) 24 rfl w.heap.size 3 i0 (.int .i64 0) 1 8 Try.underlying24 hi hz0 hz1 hz2 rfl (by decide) _ _ _ _ rfl hown1 _ _ _ _ rfl hX1 (by simp [Value.oneCell']) (by unfold maxLen; omega) (by omega) hB1.size ?_; intro A2 c2 w2 hown2 hgrow2 hat2; have hB2 := below_app hB1 hB1.size hown1 hgrow2)
        | (refine step_app rfl (.tmp 40) (.tmp 43) 24 rfl w.heap.size 3 i0 (.int .i64 0) 1 8 Try.underlying24 hi hz0 hz1 hz2 rfl (by decide) _ _ _ _ rfl hown2 _ _ _ _ rfl ((hr.keep hB2).from2 hk hnc) (I_one _) (by unfold maxLen; omega) (by omega) hB2.size ?_; intro A3 c3 w3 hown3 hgrow3 hat3; have hB3 := below_app hB2 hB2.size hown2 hgrow3))
      all_goals
        have HO3 := Lib.hid hown3
        have HB3 := Lib.hid hB3
        clear hown1 hown2 hown3 hgrow1 hgrow2 hgrow3 hat1 hat2 hat3 hB1 hB2 hB3 hA1 hA2 hA3 hb1 hb2 hb3 hr1 hr2 hr3 hX1 hX2 hX3
        go_wp2
        all_goals
          go_ret
          have e : k + 1 + (n - k) = n + 1 := by omega
          refine ⟨A3, c3, by first | rfl | (rw [e]; rfl) | rw [e], ?_, HB3.out⟩
          have h9 := HO3.out
          rw [e] at h9
          show World.ownsRow _ _ _ 1 _ _ (I (putL xs x))
          rw [HP.out, I_append]
          have e2 : I (x :: xs.drop k) = [Value.int .i64 x] ++ I (xs.drop k) := rfl
          rw [e2, ← List.append_assoc]
          exact h9
end Go.Proofs.Ytlahpnihnpmgoaa
