/- Plain laws of traps: a trap out of its syndrome, a syndrome out of its trap. No conditions. -/
import Derived.Test.YtcdocgmikpccoaaTc
import Derived.Laws.BitsLemmas
namespace Go.Proofs.Ytcdocgmikpccoaa
open Go.RowKit
set_option linter.unusedVariables false
set_option linter.unusedSimpArgs false

theorem tr_w40 (x : Int) (h0 : 0 ≤ x) (h1 : x < 2 ^ 40) : IntKind.i64.wrap x = x := by rw [IntKind.wrap_i64]; omega
theorem tr_w64 {x : Int} (h0 : 0 ≤ x) (h1 : x < 1099511627776) : wrap64 x = x := by unfold wrap64; omega
theorem tr_and1 (x : Int) (h0 : 0 ≤ x) (h1 : x < 1099511627776) : bits .and .i64 x 1 = x % 2 := bits_mask .i64 40 (by decide) tr_w40 1 (by decide) x h0 h1
theorem tr_and3 (x : Int) (h0 : 0 ≤ x) (h1 : x < 1099511627776) : bits .and .i64 x 7 = x % 8 := bits_mask .i64 40 (by decide) tr_w40 3 (by decide) x h0 h1
theorem tr_and4 (x : Int) (h0 : 0 ≤ x) (h1 : x < 1099511627776) : bits .and .i64 x 15 = x % 16 := bits_mask .i64 40 (by decide) tr_w40 4 (by decide) x h0 h1
theorem tr_and16 (x : Int) (h0 : 0 ≤ x) (h1 : x < 1099511627776) : bits .and .i64 x 65535 = x % 65536 := bits_mask .i64 40 (by decide) tr_w40 16 (by decide) x h0 h1

theorem trap_bd {c wi : Int} {s : Bool} {r i : Int} (h : trapB c wi s r i = true) : (1 ≤ c ∧ c ≤ 5) ∧ (0 ≤ wi ∧ wi ≤ 4) ∧ (0 ≤ r ∧ r ≤ 3) ∧ (0 ≤ i ∧ i ≤ 65535) := by
  unfold trapB at h
  split at h
  · simp only [Bool.and_eq_true, beq_iff_eq, inB_iff] at h
    omega
  · split at h
    · simp only [Bool.and_eq_true, beq_iff_eq, inB_iff] at h
      omega
    · split at h
      · simp only [Bool.and_eq_true, beq_iff_eq, inB_iff, widB, Bool.or_eq_true] at h
        omega
      · simp only [Bool.and_eq_true, beq_iff_eq, Bool.or_eq_true] at h
        omega
/-- the number of fields in their ranges -/
theorem numI_eq {c wi : Int} {s : Bool} {r i : Int} (hc : 0 ≤ c ∧ c ≤ 1000) (hw : 0 ≤ wi ∧ wi ≤ 1000) (hr : 0 ≤ r ∧ r ≤ 1000) (hi : 0 ≤ i ∧ i ≤ 65535) :
    numI c wi s r i = c * 16777216 + wi * 1048576 + r * 65536 + i + (if s then 8388608 else 0) := by
  unfold numI
  cases s
  · simp only [Bool.false_eq_true, if_false]
    rw [tr_w64 (x := c * 16777216) (by omega) (by omega), tr_w64 (x := wi * 1048576) (by omega) (by omega), tr_w64 (x := c * 16777216 + wi * 1048576) (by omega) (by omega), tr_w64 (x := r * 65536) (by omega) (by omega),
      tr_w64 (x := c * 16777216 + wi * 1048576 + r * 65536) (by omega) (by omega), tr_w64 (by omega) (by omega)]
    omega
  · simp only [if_true]
    rw [tr_w64 (x := c * 16777216) (by omega) (by omega), tr_w64 (x := wi * 1048576) (by omega) (by omega), tr_w64 (x := c * 16777216 + wi * 1048576) (by omega) (by omega), tr_w64 (x := r * 65536) (by omega) (by omega),
      tr_w64 (x := c * 16777216 + wi * 1048576 + r * 65536) (by omega) (by omega), tr_w64 (x := c * 16777216 + wi * 1048576 + r * 65536 + i) (by omega) (by omega), tr_w64 (by omega) (by omega)]
/-- the fields of a trap's number -/
theorem of_num {c wi : Int} {s : Bool} {r i : Int} (h : trapB c wi s r i = true) (n : Int) (hn : n = numI c wi s r i) :
    n / 16777216 = c ∧ bits .and .i64 (n / 1048576) 7 = wi ∧ (bits .and .i64 (n / 8388608) 1 == 1) = s ∧ bits .and .i64 (n / 65536) 15 = r ∧ bits .and .i64 n 65535 = i := by
  obtain ⟨h1, h2, h3, h4⟩ := trap_bd h
  rw [numI_eq (by omega) (by omega) (by omega) h4] at hn
  cases s
  · simp only [Bool.false_eq_true, if_false] at hn
    rw [tr_and3 _ (by omega) (by omega), tr_and1 _ (by omega) (by omega), tr_and4 _ (by omega) (by omega), tr_and16 _ (by omega) (by omega)]
    refine ⟨by omega, by omega, ?_, by omega, by omega⟩
    rw [beq_eq_false_iff_ne]; omega
  · simp only [if_true] at hn
    rw [tr_and3 _ (by omega) (by omega), tr_and1 _ (by omega) (by omega), tr_and4 _ (by omega) (by omega), tr_and16 _ (by omega) (by omega)]
    refine ⟨by omega, by omega, ?_, by omega, by omega⟩
    rw [beq_iff_eq]; omega
theorem ofB_num {c wi : Int} {s : Bool} {r i : Int} (h : trapB c wi s r i = true) : ofB (numI c wi s r i) = true := by
  obtain ⟨h1, h2, h3, h4, h5⟩ := of_num h _ rfl
  unfold ofB
  rw [h1, h2, h3, h4, h5, h]
theorem trapN_num {c wi : Int} {s : Bool} {r i : Int} (h : trapB c wi s r i = true) : trapN (numI c wi s r i) = trapV c wi s r i := by
  obtain ⟨h1, h2, h3, h4, h5⟩ := of_num h _ rfl
  unfold trapN trapS
  rw [ofB_num h, h1, h2, h3, h4, h5]
  rfl
/-- the number of the fields of a number -/
theorem num_of {n : Int} (h : ofB n = true) : numI (n / 16777216) (bits .and .i64 (n / 1048576) 7) (bits .and .i64 (n / 8388608) 1 == 1) (bits .and .i64 (n / 65536) 15) (bits .and .i64 n 65535) = n := by
  obtain ⟨h1, h2, h3, h4⟩ := trap_bd (show trapB _ _ _ _ _ = true from h)
  have hn : 0 ≤ n ∧ n < 100663296 := by omega
  clear h1 h2 h3 h4
  rw [tr_and3 _ (by omega) (by omega), tr_and1 _ (by omega) (by omega), tr_and4 _ (by omega) (by omega), tr_and16 _ (by omega) (by omega)]
  rw [numI_eq (by omega) (by omega) (by omega) (by omega)]
  by_cases hs : n / 8388608 % 2 = 1
  · have e : (n / 8388608 % 2 == 1) = true := by rw [beq_iff_eq]; exact hs
    rw [e, if_pos rfl]; omega
  · have e : (n / 8388608 % 2 == 1) = false := by rw [beq_eq_false_iff_ne]; exact hs
    rw [e, if_neg (by decide)]; omega
end Go.Proofs.Ytcdocgmikpccoaa
