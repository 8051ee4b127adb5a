/- Contracts of l1Stands, checksum's text and AppendChecksum, in the program and in the reference. Lengths at most 2^20. -/
import Derived.Test.YtppnmpkefchknaaDoorSa0
import Derived.Test.YtppnmpkefchknaaDoorFm
import Derived.Test.YtppnmpkefchknaaDoorShelfC
import Derived.Lib.IndexLaws
import Derived.Lib.IndexBytes
import Derived.Lib.IndexMore
namespace Go.Proofs.YtppnmpkefchknaaDoor
open Go.RowKit
set_option linter.unusedVariables false
set_option linter.unusedSimpArgs false

/-- a byte stands in a text -/
def stB (b : UInt8) (l : List UInt8) : Bool := l.any (· == b)
theorem stB_index (b : UInt8) (l : List UInt8) : (stB b l = true ∧ 0 ≤ Lib.indexByte l b) ∨ (stB b l = false ∧ Lib.indexByte l b = -1) := by
  by_cases h : Lib.indexByte l b = -1
  · refine .inr ⟨?_, h⟩
    unfold stB
    rw [List.any_eq_false]
    intro x hx
    obtain ⟨k, hk⟩ := List.getElem?_of_mem hx
    have := Lib.indexByte_none h k
    simp only [beq_iff_eq]
    intro e
    exact this (by rw [hk, e])
  · have := Lib.indexByte_ge l b
    obtain ⟨o, ho⟩ := Int.eq_ofNat_of_zero_le (a := Lib.indexByte l b) (by omega)
    refine .inl ⟨?_, by omega⟩
    exact List.any_eq_true.2 ⟨b, List.mem_of_getElem? (Lib.indexByte_some ho).1, by simp⟩

set_option maxHeartbeats 1000000 in
theorem l1Stands_any (l : List UInt8) (b : UInt8) (w : World) (hn : l.length ≤ 1048576) (r : Bool) (hr : stB b l = r) :
    Calls Tryd.prog 29 #[.string ⟨l.toArray⟩, .int .u8 (b.toNat : Int)] w fun e w' => e = .returned (.bool r) ∧ w = w' := by
  have HR := Lib.hid hr
  clear hr
  go_enter Tryd.func29, Tryd.ntmps29
  go_wp2
  go_loop [5] (fun i => ∃ k : Nat, k ≤ l.length ∧ i = .int .i64 k ∧ Hid (stB b (l.take k) = false)) (fun i => l.length - (intOf i).toNat)
  case atStart => exact ⟨0, Nat.zero_le _, rfl, rfl⟩
  case round =>
    obtain ⟨k, hk, rfl, hs⟩ := hrel
    by_cases hlt : k < l.length
    · obtain ⟨c, hc⟩ : ∃ c, l[k]? = some c := ⟨_, List.getElem?_eq_getElem hlt⟩
      have hix := str_at l hc
      have HC := Lib.hid hc
      clear hc
      by_cases hcb : c = b
      · have hq : ((c.toNat : Int) == (b.toNat : Int)) = true := by rw [hcb]; simp
        have HX := Lib.hid (show stB b l = true from List.any_eq_true.2 ⟨c, List.mem_of_getElem? HC.out, by simp [hcb]⟩)
        clear hcb
        go_wp2
        go_ret
        exact ⟨ret_bool (by rw [← HR.out, HX.out]), rfl⟩
      · have hq : ((c.toNat : Int) == (b.toNat : Int)) = false := by
          simp; intro e; exact hcb (UInt8.toNat_inj.1 (by omega))
        have HX := Lib.hid (show stB b (l.take (k + 1)) = false by rw [take_snocA HC.out, stB, List.any_append]; have := hs.out; unfold stB at this; rw [this]; simp [hcb])
        clear hcb
        go_wp2
        go_round
        case rel => exact ⟨k + 1, by omega, by go_num, HX.out⟩
        case measure => simp [intOf]; omega
    · go_wp2
      go_ret
      refine ⟨ret_bool ?_, rfl⟩
      have := hs.out
      rw [List.take_of_length_le (by omega)] at this
      rw [← HR.out, this]


/-- the library's variable holds some number -/
def Mx (w : World) : Prop := ∃ m : Int, w.cell? ⟨2, 0, none⟩ = some (.int .i64 m)
theorem Mx.keep {w w' : World} (h : Mx w) (hb : Below w.heap.size w w') : Mx w' := by
  obtain ⟨m, hm⟩ := h
  exact ⟨m, (hb.cell (p := ⟨_, 0, none⟩) (World.block_lt_of_cell? _ _ hm)).trans hm⟩
theorem Mx.of {w : World} (h : w.ShapedOpen Tryd.prog) : Mx w := Tryd.laysM144.s1_3 w h
theorem contains_eq {l : List UInt8} {r : Bool} (h : stB 35 l = r) (w : World) (hn : l.length ≤ 1048576) (hm : Mx w) :
    Calls Tryd.prog 27 #[.string ⟨l.toArray⟩, .string ⟨#[35]⟩] w fun e w' => e = .returned (.bool r) ∧ w = w' := by
  obtain ⟨m, hm⟩ := hm
  refine (Any.strings_Contains { Tryd.laysM144 with } ⟨l.toArray⟩ ⟨#[35]⟩ m w (by show l.toArray.size < _; simp; omega) hm).mono fun e w' ⟨he, hw⟩ => ⟨?_, hw.symm⟩
  have e1 : Lib.contains l [35] = r := by
    rw [Lib.contains, Lib.index_one, ← h]
    rcases stB_index 35 l with ⟨h1, h2⟩ | ⟨h1, h2⟩
    · rw [h1]; simpa using h2
    · rw [h1, h2]; rfl
  rw [he, ← e1]
def sealL (l : List UInt8) : List UInt8 := l ++ [35] ++ Lib.itoa (sumL l)
def apOk (l : List UInt8) : Bool := shortB l && (!stB 35 l && shortB (sealL l))
theorem itoa_sum (l : List UInt8) : (Lib.itoa (sumL l)).length ≤ 1000000 := by
  have hb := sumL_bd l
  rw [Lib.itoa, if_neg (by omega)]
  have := dec_len (sumL l).toNat
  omega
theorem str_cat3 (l m : List UInt8) : Value.string ((⟨l.toArray⟩ ++ ⟨#[35]⟩) ++ ⟨m.toArray⟩) = .string ⟨(l ++ [35] ++ m).toArray⟩ := by
  have e : (⟨l.toArray⟩ ++ ⟨#[35]⟩ : ByteArray) = ⟨(l ++ [35]).toArray⟩ := ByteArray.mk_append_mk l [35]
  rw [e]; exact congrArg Value.string (ByteArray.mk_append_mk _ _)
set_option maxHeartbeats 1000000 in
theorem l1Seal_any (l : List UInt8) (w : World) (hn : l.length ≤ 1048576) :
    Calls Tryd.prog 30 #[.string ⟨l.toArray⟩] w fun e w' => e = .returned (.string ⟨(sealL l).toArray⟩) ∧ Below w.heap.size w w' := by
  have hb := sumL_bd l
  obtain ⟨x, hx⟩ : ∃ x, x = Lib.itoa (sumL l) := ⟨_, rfl⟩
  have hxl : x.length ≤ 1000000 := by rw [hx]; exact itoa_sum l
  have HX := Lib.hid hx
  have HB := Lib.hid hb
  have f1 : l.length + 1 ≤ 9223372036854775807 := by omega
  have f2 : l.length + 1 + x.length ≤ 9223372036854775807 := by omega
  clear hx hb
  go_enter Tryd.func30, Tryd.ntmps30
  go_wp2_with fail
  refine (l1Sum_any l _ hn).mono ?_
  rintro e w1 ⟨rfl, rfl⟩
  go_wp2_with fail
  refine (l1Num_any (sumL l) _ (by have := HB.out; omega) (by have := HB.out; omega)).mono ?_
  rintro e w1 ⟨rfl, hb⟩
  rw [← HX.out]
  go_wp2
  go_ret
  refine ⟨?_, hb⟩
  rw [sealL, ← HX.out]
  exact congrArg Ending.returned (str_cat3 l x)

set_option maxHeartbeats 1000000 in
theorem s_AppendChecksum_any (l : List UInt8) (w : World) (hn : l.length ≤ 1048576) :
    Calls Tryd.prog 13 #[.string ⟨l.toArray⟩] w fun e w' => e = .returned (.tuple #[.string (selB (apOk l) (sealL l)), .bool (apOk l)]) ∧ Below w.heap.size w w' := by
  by_cases h4 : l.length ≤ 4000
  rotate_left
  · have h1 : (4000 : Int) < (l.length : Int) := by omega
    have e0 := Lib.hid (show apOk l = false by simp [apOk, shortB, h4])
    go_enter Tryd.func13, Tryd.ntmps13
    go_wp2
    go_ret2
    rw [e0.out]
    exact ⟨rfl, Below.refl _ _⟩
  have h1 : ¬ (4000 : Int) < (l.length : Int) := by omega
  cases hst : stB 35 l
  rotate_left
  · have e0 := Lib.hid (show apOk l = false by simp [apOk, hst])
    have HST := Lib.hid hst
    clear hst
    go_enter Tryd.func13, Tryd.ntmps13
    go_wp2_with fail
    refine (l1Stands_any l 35 _ hn _ HST.out).mono ?_
    rintro e w1 ⟨rfl, rfl⟩
    go_wp2
    go_ret2
    rw [e0.out]
    exact ⟨rfl, Below.refl _ _⟩
  have HST := Lib.hid hst
  obtain ⟨x, hx⟩ : ∃ x, x = sealL l := ⟨_, rfl⟩
  have hs : ∀ w, Calls Tryd.prog 30 #[.string ⟨l.toArray⟩] w fun e w' => e = .returned (.string ⟨x.toArray⟩) ∧ Below w.heap.size w w' := fun w => by rw [hx]; exact l1Seal_any l w hn
  have HS := Lib.hid hs
  have e1 : apOk l = decide (x.length ≤ 4000) := by rw [hx]; simp [apOk, shortB, h4, hst]
  have HE := Lib.hid e1
  have HX := Lib.hid hx
  clear hst hs e1 hx
  by_cases hx4 : x.length ≤ 4000
  · have h2 : ¬ (4000 : Int) < (x.length : Int) := by omega
    have e0 := Lib.hid (show apOk l = true by rw [HE.out]; simp [hx4])
    go_enter Tryd.func13, Tryd.ntmps13
    go_wp2_with fail
    refine (l1Stands_any l 35 _ hn _ HST.out).mono ?_
    rintro e w1 ⟨rfl, rfl⟩
    go_wp2_with fail
    refine (HS.out _).mono ?_
    rintro e w1 ⟨rfl, hb1⟩
    go_wp2_with fail
    refine (HS.out _).mono ?_
    rintro e w2 ⟨rfl, hb2⟩
    go_wp2
    go_ret2
    rw [e0.out, ← HX.out]
    exact ⟨rfl, below_next hb1 hb2⟩
  · have h2 : (4000 : Int) < (x.length : Int) := by omega
    have e0 := Lib.hid (show apOk l = false by rw [HE.out]; simp [hx4])
    go_enter Tryd.func13, Tryd.ntmps13
    go_wp2_with fail
    refine (l1Stands_any l 35 _ hn _ HST.out).mono ?_
    rintro e w1 ⟨rfl, rfl⟩
    go_wp2_with fail
    refine (HS.out _).mono ?_
    rintro e w1 ⟨rfl, hb1⟩
    go_wp2
    go_ret2
    rw [e0.out]
    exact ⟨rfl, hb1⟩

set_option maxHeartbeats 1000000 in
theorem i_AppendChecksum_any (l : List UInt8) (w : World) (hn : l.length ≤ 1048576) (ht : Tab w) (hm : Mx w) :
    Calls Tryd.prog 12 #[.string ⟨l.toArray⟩] w fun e w' => e = .returned (.tuple #[.string (selB (apOk l) (sealL l)), .bool (apOk l)]) ∧ Below w.heap.size w w' := by
  have HT := Lib.hid ht
  have HM := Lib.hid hm
  clear ht hm
  by_cases h4 : l.length ≤ 4000
  rotate_left
  · have h1 : (4000 : Int) < (l.length : Int) := by omega
    have e0 := Lib.hid (show apOk l = false by simp [apOk, shortB, h4])
    go_enter Tryd.func12, Tryd.ntmps12
    go_wp2
    go_ret2
    rw [e0.out]
    exact ⟨rfl, Below.refl _ _⟩
  have h1 : ¬ (4000 : Int) < (l.length : Int) := by omega
  cases hst : stB 35 l
  rotate_left
  · have e0 := Lib.hid (show apOk l = false by simp [apOk, hst])
    have HST := Lib.hid hst
    clear hst
    go_enter Tryd.func12, Tryd.ntmps12
    go_wp2_with fail
    refine (contains_eq HST.out _ hn HM.out).mono ?_
    rintro e w1 ⟨rfl, rfl⟩
    go_wp2
    go_ret2
    rw [e0.out]
    exact ⟨rfl, Below.refl _ _⟩
  have HST := Lib.hid hst
  have hb := sumL_bd l
  obtain ⟨x, hx⟩ : ∃ x, x = Lib.itoa (sumL l) := ⟨_, rfl⟩
  have hxl : x.length ≤ 1000000 := by rw [hx]; exact itoa_sum l
  have HE := Lib.hid (show apOk l = decide (l.length + 1 + x.length ≤ 4000) by rw [hx]; simp [apOk, shortB, h4, hst, sealL]; omega)
  have HX := Lib.hid hx
  have HB := Lib.hid hb
  have f1 : l.length + 1 ≤ 9223372036854775807 := by omega
  have f2 : l.length + 1 + x.length ≤ 9223372036854775807 := by omega
  clear hst hx hb
  by_cases hx4 : l.length + 1 + x.length ≤ 4000
  · have h2 : ¬ (4000 : Int) < (l.length : Int) + 1 + (x.length : Int) := by omega
    have e0 := Lib.hid (show apOk l = true by rw [HE.out]; simp [hx4])
    go_enter Tryd.func12, Tryd.ntmps12
    go_wp2_with fail
    refine (contains_eq HST.out _ hn HM.out).mono ?_
    rintro e w1 ⟨rfl, rfl⟩
    go_wp2_with fail
    refine (checksum_any l _ hn).mono ?_
    rintro e w1 ⟨rfl, rfl⟩
    go_wp2_with fail
    refine (itoa_any (sumL l) _ (by have := HB.out; omega) (by have := HB.out; omega) HT.out).mono ?_
    rintro e w1 ⟨rfl, hb⟩
    rw [← HX.out]
    go_wp2
    go_ret2
    rw [e0.out, sealL, ← HX.out]
    exact ⟨congrArg (fun v => Ending.returned (Value.tuple #[v, .bool true])) (str_cat3 l x), hb⟩
  · have h2 : (4000 : Int) < (l.length : Int) + 1 + (x.length : Int) := by omega
    have e0 := Lib.hid (show apOk l = false by rw [HE.out]; simp [hx4])
    go_enter Tryd.func12, Tryd.ntmps12
    go_wp2_with fail
    refine (contains_eq HST.out _ hn HM.out).mono ?_
    rintro e w1 ⟨rfl, rfl⟩
    go_wp2_with fail
    refine (checksum_any l _ hn).mono ?_
    rintro e w1 ⟨rfl, rfl⟩
    go_wp2_with fail
    refine (itoa_any (sumL l) _ (by have := HB.out; omega) (by have := HB.out; omega) HT.out).mono ?_
    rintro e w1 ⟨rfl, hb⟩
    rw [← HX.out]
    go_wp2
    go_ret2
    rw [e0.out]
    exact ⟨rfl, hb⟩
end Go.Proofs.YtppnmpkefchknaaDoor
