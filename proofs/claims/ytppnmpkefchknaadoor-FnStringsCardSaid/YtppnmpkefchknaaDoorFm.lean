/- Contracts of FormatInt in the program and in the reference; strconv.Itoa by its contract. The table of powers of ten reads as it was laid. -/
import Derived.Test.YtppnmpkefchknaaDoorNum
import Derived.Test.YtppnmpkefchknaaDoorSa0
import Derived.Test.YtppnmpkefchknaaDoorShelf
import Derived.Lib.AppendIntMem
import Derived.Lib.LaidTab
namespace Go.Proofs.YtppnmpkefchknaaDoor
open Go.RowKit
set_option linter.unusedVariables false
set_option linter.unusedSimpArgs false

abbrev Tab (w : World) : Prop := Lib.TabIs Tryd.prog w "internal/strconv.uint64pow10" .u64 Lib.pow10Tab
theorem Tab.keep {w w' : World} (h : Tab w) (hb : Below w.heap.size w w') : Tab w' := by
  unfold Tab Lib.TabIs World.var? at h ⊢
  cases hg : Tryd.prog.globalNamed "internal/strconv.uint64pow10" with
  | none => rw [hg] at h; simp at h
  | some g =>
    rw [hg] at h
    simp only [Option.bind_some] at h ⊢
    have hlt : g < w.heap.size := by
      rcases Nat.lt_or_ge g w.heap.size with h1 | h1
      · exact h1
      · rw [Array.getElem?_eq_none h1] at h; simp at h
    rw [hb.block g hlt]
    exact h
theorem itoa_any (n : Int) (w : World) (h0 : -9223372036854775808 ≤ n) (h1 : n ≤ 9223372036854775807) (ht : Tab w) :
    Calls Tryd.prog 19 #[.int .i64 n] w fun e w' => e = .returned (.string ⟨(Lib.itoa n).toArray⟩) ∧ Below w.heap.size w w' :=
  (Tryd.strconv_Itoa n h0 h1 w ht).mono fun e w' ⟨he, k, os, hw⟩ => ⟨he, hw ▸ Lib.below_grow _ w (Nat.le_refl _) k os⟩

set_option maxHeartbeats 1000000 in
theorem s_FormatInt_any (n : Int) (w : World) :
    Calls Tryd.prog 7 #[.int .i64 n] w fun e w' => e = .returned (.tuple #[.string (selB (inB n (-999999) 999999) (Lib.itoa n)), .bool (inB n (-999999) 999999)]) ∧ Below w.heap.size w w' := by
  cases h : inB n (-999999) 999999
  all_goals have H := Lib.hid h
  · clear h
    go_enter Tryd.func7, Tryd.ntmps7
    go_wp2_with fail
    refine (l1In_eq H.out _).mono ?_
    rintro e w1 ⟨rfl, rfl⟩
    go_wp2
    go_ret2
    exact ⟨rfl, Below.refl _ _⟩
  · have hb := inB_iff.1 h
    have HB := Lib.hid hb
    clear h hb
    go_enter Tryd.func7, Tryd.ntmps7
    go_wp2_with fail
    refine (l1In_eq H.out _).mono ?_
    rintro e w1 ⟨rfl, rfl⟩
    go_wp2_with fail
    refine (l1Num_any n _ (by have := HB.out; omega) (by have := HB.out; omega)).mono ?_
    rintro e w1 ⟨rfl, hb⟩
    go_wp2
    go_ret2
    exact ⟨rfl, hb⟩
set_option maxHeartbeats 1000000 in
theorem i_FormatInt_any (n : Int) (w : World) (ht : Tab w) :
    Calls Tryd.prog 6 #[.int .i64 n] w fun e w' => e = .returned (.tuple #[.string (selB (inB n (-999999) 999999) (Lib.itoa n)), .bool (inB n (-999999) 999999)]) ∧ Below w.heap.size w w' := by
  have HT := Lib.hid ht
  clear ht
  cases h : inB n (-999999) 999999
  all_goals have H := Lib.hid h
  · clear h
    go_enter Tryd.func6, Tryd.ntmps6
    go_wp2_with fail
    refine (inside_eq H.out _).mono ?_
    rintro e w1 ⟨rfl, rfl⟩
    go_wp2
    go_ret2
    exact ⟨rfl, Below.refl _ _⟩
  · have hb := inB_iff.1 h
    have HB := Lib.hid hb
    clear h hb
    go_enter Tryd.func6, Tryd.ntmps6
    go_wp2_with fail
    refine (inside_eq H.out _).mono ?_
    rintro e w1 ⟨rfl, rfl⟩
    go_wp2_with fail
    refine (itoa_any n _ (by have := HB.out; omega) (by have := HB.out; omega) HT.out).mono ?_
    rintro e w1 ⟨rfl, hb⟩
    go_wp2
    go_ret2
    exact ⟨rfl, hb⟩
end Go.Proofs.YtppnmpkefchknaaDoor
