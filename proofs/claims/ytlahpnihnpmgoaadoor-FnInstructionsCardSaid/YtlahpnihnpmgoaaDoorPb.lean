/- Contracts of ParseInt in the reference: the reader l1Read, at every text of at most 2^62 bytes. -/
import Derived.Test.YtlahpnihnpmgoaaDoorPa
namespace Go.Proofs.YtlahpnihnpmgoaaDoor
open Go.RowKit
set_option linter.unusedVariables false
set_option linter.unusedSimpArgs false

theorem ext_one {l r : List UInt8} (h : l = 45 :: r) : (⟨l.toArray⟩ : ByteArray).extract 1 (r.length + 1) = ⟨r.toArray⟩ := by
  subst h
  apply ByteArray.ext
  apply Array.ext'
  simp
theorem all_snoc {l : List UInt8} {c : UInt8} : (l ++ [c]).all digB = (l.all digB && digB c) := by simp
theorem par_in {l : List UInt8} (h : inB ((bodL l).length : Int) 1 6 = false) : parB l = false := by unfold parB rdB; rw [h]; rfl
theorem par_dig {l : List UInt8} {k : Nat} {c : UInt8} (hc : (bodL l)[k]? = some c) (hd : c.toNat < 48 ∨ 57 < c.toNat) : parB l = false := by
  have h : (bodL l).all digB = false := by
    rw [List.all_eq_false]
    refine ⟨c, List.mem_of_getElem? hc, ?_⟩
    rw [digB_iff]; omega
  unfold parB rdB
  rw [h]; simp
theorem par_end {l : List UInt8} (hi : inB ((bodL l).length : Int) 1 6 = true) (ha : (bodL l).all digB = true) : parB l = decide (Lib.itoa (sgI (negB l) (numL (bodL l))) = l) := by
  unfold parB rdB
  rw [hi, ha]; rfl

set_option maxHeartbeats 2000000 in
theorem l1Read_A (l : List UInt8) (hz0 : l.length ≤ 1) (w : World) (hg : negB l = false) (hn : l.length ≤ 4611686018427387904) :
    Calls Tryd.prog 27 #[.string ⟨l.toArray⟩] w fun e w' => e = .returned (.tuple #[.int .i64 (parN l), .bool (parB l)]) ∧ Below w.heap.size w w' := by
  have HB := Lib.hid (show bodL l = l by unfold bodL; rw [hg]; rfl)
  have HG := Lib.hid hg
  clear hg
  have hz : ¬ (1 : Int) < (l.length : Int) := by omega
  cases hin : inB (l.length : Int) 1 6
  · have HI := Lib.hid hin
    have e0 := Lib.hid (par_in (l := l) (by rw [HB.out]; exact hin))
    have e1 := Lib.hid (parN_false e0.out)
    clear hin
    go_enter Tryd.func27, Tryd.ntmps27
    go_wp2_with fail
    refine (l1In_eq HI.out _).mono ?_
    rintro e w1 ⟨rfl, rfl⟩
    go_wp2
    go_ret2
    rw [e0.out, e1.out]
    exact ⟨rfl, Below.refl _ _⟩
  · have HI := Lib.hid hin
    have hb6 := inB_iff.1 hin
    obtain ⟨hb1, hb2⟩ := hb6
    clear hin
    go_enter Tryd.func27, Tryd.ntmps27
    go_wp2_with fail
    refine (l1In_eq HI.out _).mono ?_
    rintro e w1 ⟨rfl, rfl⟩
    go_wp2
    go_loop [5, 6] (fun n i => ∃ k : Nat, k ≤ l.length ∧ i = .int .i64 k ∧ ∃ x : Int, 0 ≤ x ∧ x < 1000000 ∧ n = .int .i64 x ∧ Hid (x = numL (l.take k) ∧ (l.take k).all digB = true)) (fun _ i => l.length - (intOf i).toNat)
    case atStart => exact ⟨0, Nat.zero_le _, rfl, 0, by omega, by omega, rfl, rfl, rfl⟩
    case round =>
      obtain ⟨k, hk, rfl, x, hx0, hx1, rfl, HX⟩ := hrel
      by_cases hlt : k < l.length
      · obtain ⟨c, hc⟩ : ∃ c, l[k]? = some c := ⟨_, List.getElem?_eq_getElem hlt⟩
        have hix2 := str_at l hc
        have HC := Lib.hid hc
        clear hc
        have hc1 := c.toNat_lt
        by_cases hd0 : c.toNat < 48
        · have e0 := Lib.hid (par_dig (l := l) (by rw [HB.out]; exact HC.out) (.inl hd0))
          have e1 := Lib.hid (parN_false e0.out)
          have d0 : (c.toNat : Int) < 48 := by omega
          clear hd0
          go_wp2
          go_ret2
          rw [e0.out, e1.out]
          exact ⟨rfl, Below.refl _ _⟩
        by_cases hd1 : 57 < c.toNat
        · have e0 := Lib.hid (par_dig (l := l) (by rw [HB.out]; exact HC.out) (.inr hd1))
          have e1 := Lib.hid (parN_false e0.out)
          have d0 : ¬ (c.toNat : Int) < 48 := by omega
          have d1 : (57 : Int) < (c.toNat : Int) := by omega
          clear hd0 hd1
          go_wp2
          go_ret2
          rw [e0.out, e1.out]
          exact ⟨rfl, Below.refl _ _⟩
        have d0 : ¬ (c.toNat : Int) < 48 := by omega
        have d1 : ¬ (57 : Int) < (c.toNat : Int) := by omega
        have d2 : (c.toNat : Int) ≤ 57 := by omega
        have d3 : (48 : Int) ≤ (c.toNat : Int) := by omega
        have hx5 : x < 100000 := by
          have := numL_bd (k := 5) HX.out.2 (by rw [List.length_take]; omega)
          have h1 := HX.out.1
          rw [← h1] at this
          omega
        have HU := Lib.hid (show (10 * x + ((c.toNat : Int) - 48)) = numL (l.take (k + 1)) ∧ (l.take (k + 1)).all digB = true by
          rw [take_snocA HC.out, numL_snoc, all_snoc, ← HX.out.1, HX.out.2]
          exact ⟨rfl, by rw [Bool.true_and]; exact digB_iff.2 ⟨by omega, by omega⟩⟩)
        clear hd0 hd1
        go_wp2
        go_round
        case rel => exact ⟨k + 1, by omega, by go_num, _, by omega, by omega, rfl, HU.out⟩
        case measure => simp [intOf]; omega
      · have e2 := Lib.hid (show x = numL l ∧ l.all digB = true by
          have := HX.out
          rwa [List.take_of_length_le (by omega)] at this)
        have hpe := par_end (l := l) (by rw [HB.out]; exact HI.out) (by rw [HB.out]; exact e2.out.2)
        rw [HB.out, HG.out, ← e2.out.1] at hpe
        have HN := Lib.hid (show parN l = selI (parB l) x by unfold parN; rw [HB.out, HG.out, ← e2.out.1]; rfl)
        obtain ⟨y, hy⟩ : ∃ y, y = Lib.itoa x := ⟨_, rfl⟩
        have HPE := Lib.hid (show parB l = decide (y = l) by rw [hpe, hy]; rfl)
        have HNU := Lib.hid (show ∀ w, Calls Tryd.prog 42 #[.int .i64 x] w fun e w' => e = .returned (.string ⟨y.toArray⟩) ∧ Below w.heap.size w w' from fun w => by rw [hy]; exact l1Num_any _ w (by omega) (by omega))
        clear hpe hy
        by_cases he : y = l
        · have hq : (y == l) = true := by simp [he]
          have e0 := Lib.hid (show parB l = true by rw [HPE.out, he]; simp)
          have e1 := Lib.hid (show parN l = x by rw [HN.out, e0.out]; rfl)
          clear he
          go_wp2_with fail
          refine (HNU.out _).mono ?_
          rintro e w1 ⟨rfl, hb⟩
          go_wp2
          go_ret2
          rw [e0.out, e1.out]
          exact ⟨rfl, hb⟩
        · have hq : (y == l) = false := by simp [he]
          have e0 := Lib.hid (show parB l = false by rw [HPE.out]; exact decide_eq_false he)
          have e1 := Lib.hid (parN_false e0.out)
          clear he
          go_wp2_with fail
          refine (HNU.out _).mono ?_
          rintro e w1 ⟨rfl, hb⟩
          go_wp2
          go_ret2
          rw [e0.out, e1.out]
          exact ⟨rfl, hb⟩

set_option maxHeartbeats 2000000 in
theorem l1Read_B (l : List UInt8) (c0 : UInt8) (hc0 : l[0]? = some c0) (hne : c0 ≠ 45) (hz0 : 1 < l.length) (w : World) (hg : negB l = false) (hn : l.length ≤ 4611686018427387904) :
    Calls Tryd.prog 27 #[.string ⟨l.toArray⟩] w fun e w' => e = .returned (.tuple #[.int .i64 (parN l), .bool (parB l)]) ∧ Below w.heap.size w w' := by
  have HB := Lib.hid (show bodL l = l by unfold bodL; rw [hg]; rfl)
  have HG := Lib.hid hg
  clear hg
  have hix : ∀ w, (Instr.index 9 (.string ⟨l.toArray⟩) (.int .i64 0)).run Tryd.prog w = .ok (.int .u8 (c0.toNat : Int)) w := str_at (l := l) (k := 0) (b := c0) hc0
  have hz : (1 : Int) < (l.length : Int) := by omega
  have h45 : ¬ ((c0.toNat : Int) = 45) := by
    intro h
    exact hne (UInt8.toNat_inj.1 (by show c0.toNat = 45; omega))
  cases hin : inB (l.length : Int) 1 6
  · have HI := Lib.hid hin
    have e0 := Lib.hid (par_in (l := l) (by rw [HB.out]; exact hin))
    have e1 := Lib.hid (parN_false e0.out)
    clear hin
    go_enter Tryd.func27, Tryd.ntmps27
    go_wp2_with fail
    refine (l1In_eq HI.out _).mono ?_
    rintro e w1 ⟨rfl, rfl⟩
    go_wp2
    go_ret2
    rw [e0.out, e1.out]
    exact ⟨rfl, Below.refl _ _⟩
  · have HI := Lib.hid hin
    have hb6 := inB_iff.1 hin
    obtain ⟨hb1, hb2⟩ := hb6
    clear hin
    go_enter Tryd.func27, Tryd.ntmps27
    go_wp2_with fail
    refine (l1In_eq HI.out _).mono ?_
    rintro e w1 ⟨rfl, rfl⟩
    go_wp2
    go_loop [5, 6] (fun n i => ∃ k : Nat, k ≤ l.length ∧ i = .int .i64 k ∧ ∃ x : Int, 0 ≤ x ∧ x < 1000000 ∧ n = .int .i64 x ∧ Hid (x = numL (l.take k) ∧ (l.take k).all digB = true)) (fun _ i => l.length - (intOf i).toNat)
    case atStart => exact ⟨0, Nat.zero_le _, rfl, 0, by omega, by omega, rfl, rfl, rfl⟩
    case round =>
      obtain ⟨k, hk, rfl, x, hx0, hx1, rfl, HX⟩ := hrel
      by_cases hlt : k < l.length
      · obtain ⟨c, hc⟩ : ∃ c, l[k]? = some c := ⟨_, List.getElem?_eq_getElem hlt⟩
        have hix2 := str_at l hc
        have HC := Lib.hid hc
        clear hc
        have hc1 := c.toNat_lt
        by_cases hd0 : c.toNat < 48
        · have e0 := Lib.hid (par_dig (l := l) (by rw [HB.out]; exact HC.out) (.inl hd0))
          have e1 := Lib.hid (parN_false e0.out)
          have d0 : (c.toNat : Int) < 48 := by omega
          clear hd0
          go_wp2
          go_ret2
          rw [e0.out, e1.out]
          exact ⟨rfl, Below.refl _ _⟩
        by_cases hd1 : 57 < c.toNat
        · have e0 := Lib.hid (par_dig (l := l) (by rw [HB.out]; exact HC.out) (.inr hd1))
          have e1 := Lib.hid (parN_false e0.out)
          have d0 : ¬ (c.toNat : Int) < 48 := by omega
          have d1 : (57 : Int) < (c.toNat : Int) := by omega
          clear hd0 hd1
          go_wp2
          go_ret2
          rw [e0.out, e1.out]
          exact ⟨rfl, Below.refl _ _⟩
        have d0 : ¬ (c.toNat : Int) < 48 := by omega
        have d1 : ¬ (57 : Int) < (c.toNat : Int) := by omega
        have d2 : (c.toNat : Int) ≤ 57 := by omega
        have d3 : (48 : Int) ≤ (c.toNat : Int) := by omega
        have hx5 : x < 100000 := by
          have := numL_bd (k := 5) HX.out.2 (by rw [List.length_take]; omega)
          have h1 := HX.out.1
          rw [← h1] at this
          omega
        have HU := Lib.hid (show (10 * x + ((c.toNat : Int) - 48)) = numL (l.take (k + 1)) ∧ (l.take (k + 1)).all digB = true by
          rw [take_snocA HC.out, numL_snoc, all_snoc, ← HX.out.1, HX.out.2]
          exact ⟨rfl, by rw [Bool.true_and]; exact digB_iff.2 ⟨by omega, by omega⟩⟩)
        clear hd0 hd1
        go_wp2
        go_round
        case rel => exact ⟨k + 1, by omega, by go_num, _, by omega, by omega, rfl, HU.out⟩
        case measure => simp [intOf]; omega
      · have e2 := Lib.hid (show x = numL l ∧ l.all digB = true by
          have := HX.out
          rwa [List.take_of_length_le (by omega)] at this)
        have hpe := par_end (l := l) (by rw [HB.out]; exact HI.out) (by rw [HB.out]; exact e2.out.2)
        rw [HB.out, HG.out, ← e2.out.1] at hpe
        have HN := Lib.hid (show parN l = selI (parB l) x by unfold parN; rw [HB.out, HG.out, ← e2.out.1]; rfl)
        obtain ⟨y, hy⟩ : ∃ y, y = Lib.itoa x := ⟨_, rfl⟩
        have HPE := Lib.hid (show parB l = decide (y = l) by rw [hpe, hy]; rfl)
        have HNU := Lib.hid (show ∀ w, Calls Tryd.prog 42 #[.int .i64 x] w fun e w' => e = .returned (.string ⟨y.toArray⟩) ∧ Below w.heap.size w w' from fun w => by rw [hy]; exact l1Num_any _ w (by omega) (by omega))
        clear hpe hy
        by_cases he : y = l
        · have hq : (y == l) = true := by simp [he]
          have e0 := Lib.hid (show parB l = true by rw [HPE.out, he]; simp)
          have e1 := Lib.hid (show parN l = x by rw [HN.out, e0.out]; rfl)
          clear he
          go_wp2_with fail
          refine (HNU.out _).mono ?_
          rintro e w1 ⟨rfl, hb⟩
          go_wp2
          go_ret2
          rw [e0.out, e1.out]
          exact ⟨rfl, hb⟩
        · have hq : (y == l) = false := by simp [he]
          have e0 := Lib.hid (show parB l = false by rw [HPE.out]; exact decide_eq_false he)
          have e1 := Lib.hid (parN_false e0.out)
          clear he
          go_wp2_with fail
          refine (HNU.out _).mono ?_
          rintro e w1 ⟨rfl, hb⟩
          go_wp2
          go_ret2
          rw [e0.out, e1.out]
          exact ⟨rfl, hb⟩

set_option maxHeartbeats 2000000 in
theorem l1Read_C (l r : List UInt8) (hl : l = 45 :: r) (hz0 : 1 ≤ r.length) (w : World) (hg : negB l = true) (hn : l.length ≤ 4611686018427387904) :
    Calls Tryd.prog 27 #[.string ⟨l.toArray⟩] w fun e w' => e = .returned (.tuple #[.int .i64 (parN l), .bool (parB l)]) ∧ Below w.heap.size w w' := by
  have HB := Lib.hid (show bodL l = r by unfold bodL; rw [hg]; rw [hl]; rfl)
  have HG := Lib.hid hg
  clear hg
  have hix : ∀ w, (Instr.index 9 (.string ⟨l.toArray⟩) (.int .i64 0)).run Tryd.prog w = .ok (.int .u8 45) w := str_at (l := l) (k := 0) (b := 45) (by rw [hl]; rfl)
  have HEX := Lib.hid (ext_one hl)
  have hll : l.length = r.length + 1 := by rw [hl]; simp
  have hz : (1 : Int) < (l.length : Int) := by omega
  have hz1 : (1 : Int) ≤ (l.length : Int) := by omega
  clear hl
  cases hin : inB (r.length : Int) 1 6
  · have HI := Lib.hid hin
    have e0 := Lib.hid (par_in (l := l) (by rw [HB.out]; exact hin))
    have e1 := Lib.hid (parN_false e0.out)
    clear hin
    go_enter Tryd.func27, Tryd.ntmps27
    go_wp2_with fail
    rw [HEX.out]
    refine (l1In_eq HI.out _).mono ?_
    rintro e w1 ⟨rfl, rfl⟩
    go_wp2
    go_ret2
    rw [e0.out, e1.out]
    exact ⟨rfl, Below.refl _ _⟩
  · have HI := Lib.hid hin
    have hb6 := inB_iff.1 hin
    obtain ⟨hb1, hb2⟩ := hb6
    clear hin
    go_enter Tryd.func27, Tryd.ntmps27
    go_wp2_with fail
    rw [HEX.out]
    refine (l1In_eq HI.out _).mono ?_
    rintro e w1 ⟨rfl, rfl⟩
    go_wp2
    go_loop [5, 6] (fun n i => ∃ k : Nat, k ≤ r.length ∧ i = .int .i64 k ∧ ∃ x : Int, 0 ≤ x ∧ x < 1000000 ∧ n = .int .i64 x ∧ Hid (x = numL (r.take k) ∧ (r.take k).all digB = true)) (fun _ i => r.length - (intOf i).toNat)
    case atStart => exact ⟨0, Nat.zero_le _, rfl, 0, by omega, by omega, rfl, rfl, rfl⟩
    case round =>
      obtain ⟨k, hk, rfl, x, hx0, hx1, rfl, HX⟩ := hrel
      by_cases hlt : k < r.length
      · obtain ⟨c, hc⟩ : ∃ c, r[k]? = some c := ⟨_, List.getElem?_eq_getElem hlt⟩
        have hix2 := str_at r hc
        have HC := Lib.hid hc
        clear hc
        have hc1 := c.toNat_lt
        by_cases hd0 : c.toNat < 48
        · have e0 := Lib.hid (par_dig (l := l) (by rw [HB.out]; exact HC.out) (.inl hd0))
          have e1 := Lib.hid (parN_false e0.out)
          have d0 : (c.toNat : Int) < 48 := by omega
          clear hd0
          go_wp2
          go_ret2
          rw [e0.out, e1.out]
          exact ⟨rfl, Below.refl _ _⟩
        by_cases hd1 : 57 < c.toNat
        · have e0 := Lib.hid (par_dig (l := l) (by rw [HB.out]; exact HC.out) (.inr hd1))
          have e1 := Lib.hid (parN_false e0.out)
          have d0 : ¬ (c.toNat : Int) < 48 := by omega
          have d1 : (57 : Int) < (c.toNat : Int) := by omega
          clear hd0 hd1
          go_wp2
          go_ret2
          rw [e0.out, e1.out]
          exact ⟨rfl, Below.refl _ _⟩
        have d0 : ¬ (c.toNat : Int) < 48 := by omega
        have d1 : ¬ (57 : Int) < (c.toNat : Int) := by omega
        have d2 : (c.toNat : Int) ≤ 57 := by omega
        have d3 : (48 : Int) ≤ (c.toNat : Int) := by omega
        have hx5 : x < 100000 := by
          have := numL_bd (k := 5) HX.out.2 (by rw [List.length_take]; omega)
          have h1 := HX.out.1
          rw [← h1] at this
          omega
        have HU := Lib.hid (show (10 * x + ((c.toNat : Int) - 48)) = numL (r.take (k + 1)) ∧ (r.take (k + 1)).all digB = true by
          rw [take_snocA HC.out, numL_snoc, all_snoc, ← HX.out.1, HX.out.2]
          exact ⟨rfl, by rw [Bool.true_and]; exact digB_iff.2 ⟨by omega, by omega⟩⟩)
        clear hd0 hd1
        go_wp2
        go_round
        case rel => exact ⟨k + 1, by omega, by go_num, _, by omega, by omega, rfl, HU.out⟩
        case measure => simp [intOf]; omega
      · have e2 := Lib.hid (show x = numL r ∧ r.all digB = true by
          have := HX.out
          rwa [List.take_of_length_le (by omega)] at this)
        have hpe := par_end (l := l) (by rw [HB.out]; exact HI.out) (by rw [HB.out]; exact e2.out.2)
        rw [HB.out, HG.out, ← e2.out.1] at hpe
        have HN := Lib.hid (show parN l = selI (parB l) (-x) by unfold parN; rw [HB.out, HG.out, ← e2.out.1]; rfl)
        obtain ⟨y, hy⟩ : ∃ y, y = Lib.itoa (-x) := ⟨_, rfl⟩
        have HPE := Lib.hid (show parB l = decide (y = l) by rw [hpe, hy]; rfl)
        have HNU := Lib.hid (show ∀ w, Calls Tryd.prog 42 #[.int .i64 (-x)] w fun e w' => e = .returned (.string ⟨y.toArray⟩) ∧ Below w.heap.size w w' from fun w => by rw [hy]; exact l1Num_any _ w (by omega) (by omega))
        clear hpe hy
        by_cases he : y = l
        · have hq : (y == l) = true := by simp [he]
          have e0 := Lib.hid (show parB l = true by rw [HPE.out, he]; simp)
          have e1 := Lib.hid (show parN l = (-x) by rw [HN.out, e0.out]; rfl)
          clear he
          go_wp2_with fail
          refine (HNU.out _).mono ?_
          rintro e w1 ⟨rfl, hb⟩
          go_wp2
          go_ret2
          rw [e0.out, e1.out]
          exact ⟨rfl, hb⟩
        · have hq : (y == l) = false := by simp [he]
          have e0 := Lib.hid (show parB l = false by rw [HPE.out]; exact decide_eq_false he)
          have e1 := Lib.hid (parN_false e0.out)
          clear he
          go_wp2_with fail
          refine (HNU.out _).mono ?_
          rintro e w1 ⟨rfl, hb⟩
          go_wp2
          go_ret2
          rw [e0.out, e1.out]
          exact ⟨rfl, hb⟩
end Go.Proofs.YtlahpnihnpmgoaaDoor
