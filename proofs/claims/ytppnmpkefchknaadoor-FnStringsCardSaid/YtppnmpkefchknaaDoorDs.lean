/- Contracts of what is drawn for the law of strings, and of the law's reading of its code. The code of at most 65536 bytes. -/
import Derived.Test.YtppnmpkefchknaaDoorLr
import Derived.Test.YtppnmpkefchknaaDoorCv
import Derived.Test.YtppnmpkefchknaaDoorBs
import Derived.Test.YtppnmpkefchknaaDoorNum
import Derived.Test.YtppnmpkefchknaaDoorOpC
namespace Go.Proofs.YtppnmpkefchknaaDoor
open Go.RowKit
set_option linter.unusedVariables false
set_option linter.unusedSimpArgs false

theorem bytes_mk (q : ByteArray) : ∃ l : List UInt8, q = ⟨l.toArray⟩ := ⟨q.data.toList, by cases q; simp⟩
theorem mk_size (l : List UInt8) : (⟨l.toArray⟩ : ByteArray).size = l.length := by show l.toArray.size = _; simp
theorem madeB (n : Nat) : (madeCells (Value.int .u8 0).cells (n * 1)).toList = Bs (List.replicate n 0) := by
  show (madeCells #[Value.int .u8 0] (n * 1)).toList = _
  rw [toList_madeCells_one, Nat.mul_one]; simp [Bs]
theorem vAt_in (A : Option Addr) (n c i b o : Nat) (u : UInt8) (w : World) (hA : A = some ⟨b, o, none⟩) (hi : i < n) (hn : n ≤ 65536) (hu : w.cell? ⟨b, o + i, none⟩ = some (.int .u8 u.toNat)) :
    Calls Tryd.prog 15 #[.slice A n c, .int .i64 (i : Int)] w fun e w' => e = .returned (.int .i64 u.toNat) ∧ w = w' := by
  subst hA
  have h0 : (0 : Int) ≤ (i : Int) := by omega
  have h1 : (i : Int) < (n : Int) := by omega
  have h2 := u.toNat_lt
  go_enter Tryd.func15, Tryd.ntmps15
  go_wp2
  go_ret
  exact ⟨rfl, rfl⟩
theorem vAt_out (A : Option Addr) (n c i : Nat) (w : World) (hi : ¬ i < n) (hn : n ≤ 65536) (hi2 : i ≤ 100) :
    Calls Tryd.prog 15 #[.slice A n c, .int .i64 (i : Int)] w fun e w' => e = .returned (.int .i64 (((i : Int) * 7 + (n : Int)) % 256)) ∧ w = w' := by
  have h1 : ¬ (i : Int) < (n : Int) := by omega
  go_enter Tryd.func15, Tryd.ntmps15
  go_wp2
  go_ret
  exact ⟨rfl, rfl⟩
theorem vAt_ex {w : World} {A : Option Addr} {n : Nat} (hb : Bys w A n) (hn : n ≤ 65536) (i : Nat) (hi : i ≤ 100) :
    ∃ v : Int, (0 ≤ v ∧ v ≤ 255) ∧ ∀ (c : Nat) (w' : World), Below w.heap.size w w' → Calls Tryd.prog 15 #[.slice A n c, .int .i64 (i : Int)] w' fun e w'' => e = .returned (.int .i64 v) ∧ w' = w'' := by
  by_cases h : i < n
  · obtain ⟨b, o, hA, hlt, hc⟩ := hb (by omega)
    obtain ⟨u, hu⟩ := hc i h
    refine ⟨u.toNat, by have := u.toNat_lt; omega, fun c w' hbl => vAt_in A n c i b o u w' hA h hn ?_⟩
    rw [hbl.cell (p := ⟨b, o + i, none⟩) hlt]; exact hu
  · exact ⟨_, by omega, fun c w' _ => vAt_out A n c i w' h hn hi⟩

section
variable (A : Option Addr) (n ca : Nat) (w : World) (h : Code w w.heap.size A n)
include h
set_option maxHeartbeats 1000000 in
theorem DrawFormatInt_any :
    Calls Tryd.prog 5 #[.slice A n ca] w fun e w' => ∃ q : Int, (-1000000 ≤ q ∧ q ≤ 1000000) ∧ e = .returned (.int .i64 q) ∧ Below w.heap.size w w' := by
  have HN := Lib.hid (Cu.new (c := ca) h)
  clear h
  go_enter Tryd.func5, Tryd.ntmps5
  go_wp2_with fail
  refine (pick_any 1000 HN.out (by omega) (by decide) (by decide)).mono ?_
  rintro e w1 ⟨x, ⟨hx0, hx1, _⟩, rfl, ⟨k1, hk1, hc1⟩, hf1⟩
  have hx2 := hx1 (by decide)
  have HC1 := Lib.hid hc1
  have HB1 := Lib.hid ((below_alloc w _).trans (hf1.below (Nat.le_refl _) (below_alloc w _).size))
  clear hc1 hf1 hx1
  go_wp2_with fail
  refine (among_lit (-1000000) 1000000 9 _ _ HC1.out (by omega) rfl (by omega) (by omega) (by simp [intsB]; omega)).mono ?_
  rintro e w2 ⟨q, hq, rfl, _, hf2⟩
  have HB2 := Lib.hid (HB1.out.trans (hf2.below (Nat.le_refl _) HB1.out.size))
  clear hf2
  go_wp2
  go_ret
  exact ⟨q, hq, rfl, HB2.out⟩
set_option maxHeartbeats 1000000 in
theorem DrawParseInt_any :
    Calls Tryd.prog 8 #[.slice A n ca] w fun e w' => ∃ l : List UInt8, l.length ≤ 3000 ∧ e = .returned (.string ⟨l.toArray⟩) ∧ Below w.heap.size w w' := by
  have HN := Lib.hid (Cu.new (c := ca) h)
  clear h
  go_enter Tryd.func8, Tryd.ntmps8
  go_wp2_with fail
  refine (one_any 2 HN.out (by omega) (by decide) (by decide)).mono ?_
  rintro e w1 ⟨b, rfl, ⟨k1, hk1, hc1⟩, hf1⟩
  have HC1 := Lib.hid hc1
  have HB1 := Lib.hid ((below_alloc w _).trans (hf1.below (Nat.le_refl _) (below_alloc w _).size))
  clear hc1 hf1
  cases b
  · go_wp2_with fail
    refine (pick_any 2000 HC1.out (by omega) (by decide) (by decide)).mono ?_
    rintro e w2 ⟨x, ⟨hx0, hx1, _⟩, rfl, ⟨k2, hk2, hc2⟩, hf2⟩
    have hx2 := hx1 (by decide)
    have HB2 := Lib.hid (HB1.out.trans (hf2.below (Nat.le_refl _) HB1.out.size))
    clear hc2 hf2 hx1
    go_wp2_with fail
    refine (l1Num_any (x - 1000) _ (by omega) (by omega)).mono ?_
    rintro e w3 ⟨rfl, hb3⟩
    have HB3 := Lib.hid (HB2.out.trans (hb3.mono HB2.out.size))
    clear hb3
    go_wp2
    go_ret
    refine ⟨_, ?_, rfl, HB3.out⟩
    unfold Lib.itoa
    split
    · have := dec_len (x - 1000).natAbs
      simp only [List.length_cons]
      omega
    · have := dec_len (x - 1000).toNat
      omega
  · go_wp2_with fail
    refine (of_lit 100 11 _ _ HC1.out (by omega) rfl (by omega) (by omega) (by decide)).mono ?_
    rintro e w2 ⟨q, hq, rfl, _, hf2⟩
    have HB2 := Lib.hid (HB1.out.trans (hf2.below (Nat.le_refl _) HB1.out.size))
    clear hf2
    obtain ⟨l, rfl⟩ := bytes_mk q
    rw [mk_size] at hq
    go_wp2
    go_ret
    exact ⟨l, by omega, rfl, HB2.out⟩
set_option maxHeartbeats 2000000 in
theorem DrawAppendChecksum_any :
    Calls Tryd.prog 11 #[.slice A n ca] w fun e w' => ∃ l : List UInt8, l.length ≤ 4010 ∧ e = .returned (.string ⟨l.toArray⟩) ∧ Below w.heap.size w w' := by
  obtain ⟨j0, hj, hy0', hy1', hy2'⟩ := info_parts Tryd.info5
  have HN := Lib.hid (Cu.new (c := ca) h)
  clear h
  go_enter Tryd.func11, Tryd.ntmps11
  go_wp2_with fail
  refine (one_any 20 HN.out (by omega) (by decide) (by decide)).mono ?_
  rintro e w1 ⟨b, rfl, ⟨k1, hk1, hc1⟩, hf1⟩
  have HC1 := Lib.hid hc1
  have HB1 := Lib.hid ((below_alloc w _).trans (hf1.below (Nat.le_refl _) (below_alloc w _).size))
  clear hc1 hf1
  cases b
  · go_wp2_with fail
    refine (any1_any HC1.out (by omega)).mono ?_
    rintro e w2 ⟨q, hq, rfl, _, hf2⟩
    have HB2 := Lib.hid (HB1.out.trans (hf2.below (Nat.le_refl _) HB1.out.size))
    clear hf2
    obtain ⟨l, rfl⟩ := bytes_mk q
    rw [mk_size] at hq
    go_wp2
    go_ret
    exact ⟨l, by omega, rfl, HB2.out⟩
  · go_wp2_with fail
    refine (pick_any 10 HC1.out (by omega) (by decide) (by decide)).mono ?_
    rintro e w4 ⟨y, ⟨hy0, hy1, _⟩, rfl, ⟨k4, hk4, hc4⟩, hf4⟩
    have hy2 := hy1 (by decide)
    have HB4 := Lib.hid (HB1.out.trans (hf4.below (Nat.le_refl _) HB1.out.size))
    clear hc4 hf4 hy1
    obtain ⟨y, rfl⟩ := Int.eq_ofNat_of_zero_le hy0
    go_wp2_with (at_make; refine wpList_make_full _ rfl _ _ 22 rfl w4.heap.size 5 j0 (.int .u8 0) 1 Tryd.underlying22 hj hy0' hy1' .i64 .i64 _ _ (3990 + y) rfl rfl (by first | rfl | omega) (by first | rfl | omega) (by rw [hy2']; omega) (by unfold maxLen; omega) (Nat.le_refl _) ?_; intro w5 hown hgrow)
    rw [madeB] at hown
    obtain ⟨lz, hlz⟩ : ∃ lz, lz = List.replicate (3990 + y) (0 : UInt8) := ⟨_, rfl⟩
    have hzl : lz.length = 3990 + y := by rw [hlz, List.length_replicate]
    rw [← hlz] at hown
    clear hlz
    have HB5 := Lib.hid (HB4.out.trans (((Below.refl _ _).grown hgrow (Nat.le_refl _) (by simp)).mono HB4.out.size))
    have hcv := own_string (show Own w5 w4.heap.size (tb (some ⟨w4.heap.size, 0, none⟩) (3990 + y) (3990 + y) lz) from hown)
    clear hown hgrow
    go_wp2_with fail
    rw [hcv]
    clear hcv
    go_wp2
    go_ret
    exact ⟨lz, by omega, rfl, HB5.out⟩
end
end Go.Proofs.YtppnmpkefchknaaDoor
