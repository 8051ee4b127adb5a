/- Contracts on records of Trap and slices of them: toTrap, toTrapS, eqTrap, eqTrapS, szTrapS. Lengths at most 2^20. -/
import Derived.Test.YtoofkdlpjgokdaaTa
import Derived.Test.YtoofkdlpjgokdaaSl
import Derived.Deep.RegionHeld3
namespace Go.Proofs.Ytoofkdlpjgokdaa
open Go.RowKit
set_option linter.unusedVariables false
set_option linter.unusedSimpArgs false

/-- a record of Trap -/
structure RTrap where
  f0 : Int
  f1 : Int
  f2 : Bool
  f3 : Int
  f4 : Int
def cTrap (x : RTrap) : List Value := [.int .i64 x.f0, .int .i64 x.f1, .bool x.f2, .int .i64 x.f3, .int .i64 x.f4]
abbrev vTrap (x : RTrap) : Value := .agg #[.int .i64 x.f0, .int .i64 x.f1, .bool x.f2, .int .i64 x.f3, .int .i64 x.f4]
theorem cTrap_len (x : RTrap) : (cTrap x).length = 5 := rfl
theorem posTrap : 0 < 5 := by decide
abbrev zTrap : RTrap := ⟨0, 0, false, 0, 0⟩
abbrev tsTrap (A : Option Addr) (n c : Nat) (xs : List RTrap) : Thing := ⟨25, 5, A, n, c, J cTrap xs⟩
theorem Try.info25 : (Try.prog.info? 25).map (fun i => (i.zero, i.size, i.bytes)) = some (some (.agg #[.int .i64 0, .int .i64 0, .bool false, .int .i64 0, .int .i64 0]), 5, 40) := by kernel_rfl
theorem madeTrap (n : Nat) : (madeCells (Value.agg #[.int .i64 0, .int .i64 0, .bool false, .int .i64 0, .int .i64 0]).cells (n * 5)).toList = J cTrap (List.replicate n zTrap) := made_J (f := cTrap) (x := zTrap) cTrap_len posTrap rfl n
theorem atTrap {w : World} {A : Option Addr} {n k : Nat} {xs : List RTrap} (h : Rd w 5 A n (J cTrap xs)) (hk : k < n) :
    ∃ b o x, A = some ⟨b, o, none⟩ ∧ b < w.heap.size ∧ Hid (xs[k]? = some x) ∧ w.cell? ⟨b, o + k * 5, none⟩ = some (.int .i64 x.f0) ∧ w.cell? ⟨b, o + k * 5 + 1, none⟩ = some (.int .i64 x.f1) ∧ w.cell? ⟨b, o + k * 5 + 2, none⟩ = some (.bool x.f2) ∧ w.cell? ⟨b, o + k * 5 + 3, none⟩ = some (.int .i64 x.f3) ∧ w.cell? ⟨b, o + k * 5 + 4, none⟩ = some (.int .i64 x.f4) := by
  obtain ⟨b, o, x, hA, hb, hx, hc⟩ := h.atS posTrap cTrap_len hk
  exact ⟨b, o, x, hA, hb, hx, hc 0 _ rfl, by rw [Nat.add_assoc]; exact hc 1 _ rfl, by rw [Nat.add_assoc]; exact hc 2 _ rfl, by rw [Nat.add_assoc]; exact hc 3 _ rfl, by rw [Nat.add_assoc]; exact hc 4 _ rfl⟩
set_option maxHeartbeats 400000 in
theorem toRTrap_any (x : RTrap) (w : World) :
    Calls Try.prog 16 #[vTrap x] w fun e w' => e = .returned (vTrap x) ∧ Below w.heap.size w w' := by
  go_enter Try.func16, Try.ntmps16
  go_wp2
  exact bodyPost_ret (v := vTrap x) (by simp [results, Try.results16, go_sem]) rfl ⟨rfl, ((Below.refl _ _).alloc (Nat.le_refl _) _).alloc (by simp) _ |>.alloc (by simp <;> omega) _⟩

set_option maxHeartbeats 400000 in
theorem eqRTrap_same (x : RTrap) (w : World) :
    Calls Try.prog 26 #[vTrap x, vTrap x] w fun e w' => e = .returned (.bool true) ∧ Below w.heap.size w w' := by
  go_enter Try.func26, Try.ntmps26
  go_wp2
  go_ret
  exact ⟨rfl, below_next (below_alloc _ _) (below_alloc _ _)⟩

set_option maxHeartbeats 400000 in
theorem szTrapS_eq (A : Option Addr) (n c : Nat) (w : World) (hn : n ≤ 9223372036854775807) (r : Int) (hr : (if n ≤ 1048576 then 1048576 - (n : Int) else -1) = r) :
    Calls Try.prog 39 #[.slice A n c, .int .i64 1048576] w fun e w' => e = .returned (.int .i64 r) ∧ w = w' := by
  have HR := Lib.hid hr
  clear hr
  by_cases h : n ≤ 1048576
  all_goals
    go_enter Try.func39, Try.ntmps39
    go_wp2
    go_ret
    exact ⟨ret_int (by rw [← HR.out]; simp [h]), rfl⟩

set_option maxHeartbeats 2000000 in
theorem toTrapS_any (A : Option Addr) (n c : Nat) (xs : List RTrap) (w : World) (hr : Rd w 5 A n (J cTrap xs)) (hn : n ≤ 1048576) :
    Calls Try.prog 41 #[.slice A n c] w fun e w' => ∃ A' c', e = .returned (.slice A' n c') ∧ Own w' w.heap.size (tsTrap A' n c' xs) ∧ Below w.heap.size w w' := by
  have hlen := hr.lenS posTrap cTrap_len
  subst hlen
  obtain ⟨i0, hi, hz0, hz1, hz2⟩ := info_parts Try.info25
  go_enter Try.func41, Try.ntmps41
  go_wp2_with (at_make; refine wpList_make_full _ rfl _ _ 54 rfl w.heap.size 25 i0 (.agg #[.int .i64 0, .int .i64 0, .bool false, .int .i64 0, .int .i64 0]) 5 Try.underlying54 hi hz0 hz1 .i64 .i64 _ _ xs.length rfl rfl (by first | rfl | omega) (by first | rfl | omega) (by rw [hz2]; omega) (by unfold maxLen; omega) (Nat.le_refl _) ?_; intro w1 hown hgrow)
  rw [madeTrap] at hown
  have hb1 : Below w.heap.size w w1 := (Below.refl _ _).grown hgrow (Nat.le_refl _) (by simp)
  clear hgrow hi hz0 hz1 hz2
  go_loopw [4] (fun i wr => ∃ k : Nat, k ≤ xs.length ∧ i = .int .i64 k ∧ Own wr w.heap.size (tsTrap (some ⟨w.heap.size, 0, none⟩) xs.length xs.length (xs.take k ++ List.replicate (xs.length - k) zTrap)) ∧ Below w.heap.size w wr)
    (fun i _ => xs.length - (intOf i).toNat)
  case atStart => exact ⟨0, Nat.zero_le _, rfl, by simpa using hown, hb1⟩
  case round =>
    obtain ⟨k, hk, rfl, hO, hB⟩ := hrel
    by_cases hlt : k < xs.length
    · obtain ⟨b, o, x, rfl, hbl, hxk, hc0, hc1, hc2, hc3, hc4⟩ := atTrap (hr.keep hB) hlt
      have HO := Lib.hid hO
      clear hO
      go_wp2_with fail
      refine (toRTrap_any _ _).mono ?_
      rintro e w2 ⟨rfl, hb2⟩
      have hO2 : Own w2 w.heap.size _ := World.ownsRow.kept (row := none) HO.out (grown_of_below hb2 _) (by right; rw [ownBlock_slice]; simp [blk])
      have hfk := fill_get xs zTrap k hlt
      have y0 : w2.cell? ⟨w.heap.size, k * 5, none⟩ = some (.int .i64 0) := own_cellS (j := 0) cTrap_len hO2 hfk hlt (by decide) rfl
      have y1 : w2.cell? ⟨w.heap.size, k * 5 + 1, none⟩ = some (.int .i64 0) := own_cellS (j := 1) cTrap_len hO2 hfk hlt (by decide) rfl
      have y2 : w2.cell? ⟨w.heap.size, k * 5 + 2, none⟩ = some (.bool false) := own_cellS (j := 2) cTrap_len hO2 hfk hlt (by decide) rfl
      have y3 : w2.cell? ⟨w.heap.size, k * 5 + 3, none⟩ = some (.int .i64 0) := own_cellS (j := 3) cTrap_len hO2 hfk hlt (by decide) rfl
      have y4 : w2.cell? ⟨w.heap.size, k * 5 + 4, none⟩ = some (.int .i64 0) := own_cellS (j := 4) cTrap_len hO2 hfk hlt (by decide) rfl
      have hfz : ∀ j, w2.frozen? ⟨w.heap.size, j, none⟩ = false := fun j => World.ownsRow.frozenAt hO2 j
      have P2 := own_putAll (cTrap x) w2 _ (k * 5) hO2
      rw [J_set cTrap_len _ k (by rw [fill_len xs zTrap k hk]; exact hlt) x, set_fillA xs zTrap k x hxk.out] at P2
      have HP2 := Lib.hid P2
      have HB2 := Lib.hid (below_next hB hb2)
      clear P2 hO2 hfk hb2
      go_wp2
      go_roundw
      case rel => exact ⟨k + 1, by omega, by go_num, HP2.out.1, putAll_below (cTrap x) (p := k * 5) HB2.out (Nat.le_refl _)⟩
      case measure => simp [intOf]; omega
    · have hkn : k = xs.length := by omega
      have HO := Lib.hid hO
      clear hO
      go_wp2
      go_ret
      refine ⟨_, _, rfl, ?_, hB⟩
      have := HO.out
      subst hkn
      simpa using this

set_option maxHeartbeats 2000000 in
theorem eqTrapS_same (A A' : Option Addr) (n c c' : Nat) (xs : List RTrap) (w : World) (hr : Rd w 5 A n (J cTrap xs)) (hr' : Rd w 5 A' n (J cTrap xs)) (hn : n ≤ 1048576) :
    Calls Try.prog 43 #[.slice A n c, .slice A' n c'] w fun e w' => e = .returned (.bool true) ∧ Below w.heap.size w w' := by
  have hnb : ((n : Int) != (n : Int)) = false := by simp
  go_enter Try.func43, Try.ntmps43
  go_wp2
  go_loopw [5] (fun i wr => ∃ k : Nat, k ≤ n ∧ i = .int .i64 k ∧ Below w.heap.size w wr) (fun i _ => n - (intOf i).toNat)
  case atStart => exact ⟨0, Nat.zero_le _, rfl, Below.refl _ _⟩
  case round =>
    obtain ⟨k, hk, rfl, hB⟩ := hrel
    clear hnb
    by_cases hlt : k < n
    · obtain ⟨b, o, x, rfl, hbl, hxk, hc0, hc1, hc2, hc3, hc4⟩ := atTrap (hr.keep hB) hlt
      obtain ⟨b', o', y, rfl, hbl', hyk, hd0, hd1, hd2, hd3, hd4⟩ := atTrap (hr'.keep hB) hlt
      obtain rfl : x = y := Option.some.inj (hxk.out.symm.trans hyk.out)
      have ex0 : ∀ q : Ext wr, q.1.cell? ⟨b, o + k * 5, none⟩ = some (.int .i64 x.f0) := fun q => (Ext.cell b hbl q _).trans hc0
      have ex1 : ∀ q : Ext wr, q.1.cell? ⟨b, o + k * 5 + 1, none⟩ = some (.int .i64 x.f1) := fun q => (Ext.cell b hbl q _).trans hc1
      have ex2 : ∀ q : Ext wr, q.1.cell? ⟨b, o + k * 5 + 2, none⟩ = some (.bool x.f2) := fun q => (Ext.cell b hbl q _).trans hc2
      have ex3 : ∀ q : Ext wr, q.1.cell? ⟨b, o + k * 5 + 3, none⟩ = some (.int .i64 x.f3) := fun q => (Ext.cell b hbl q _).trans hc3
      have ex4 : ∀ q : Ext wr, q.1.cell? ⟨b, o + k * 5 + 4, none⟩ = some (.int .i64 x.f4) := fun q => (Ext.cell b hbl q _).trans hc4
      have ey0 : ∀ q : Ext wr, q.1.cell? ⟨b', o' + k * 5, none⟩ = some (.int .i64 x.f0) := fun q => (Ext.cell b' hbl' q _).trans hd0
      have ey1 : ∀ q : Ext wr, q.1.cell? ⟨b', o' + k * 5 + 1, none⟩ = some (.int .i64 x.f1) := fun q => (Ext.cell b' hbl' q _).trans hd1
      have ey2 : ∀ q : Ext wr, q.1.cell? ⟨b', o' + k * 5 + 2, none⟩ = some (.bool x.f2) := fun q => (Ext.cell b' hbl' q _).trans hd2
      have ey3 : ∀ q : Ext wr, q.1.cell? ⟨b', o' + k * 5 + 3, none⟩ = some (.int .i64 x.f3) := fun q => (Ext.cell b' hbl' q _).trans hd3
      have ey4 : ∀ q : Ext wr, q.1.cell? ⟨b', o' + k * 5 + 4, none⟩ = some (.int .i64 x.f4) := fun q => (Ext.cell b' hbl' q _).trans hd4
      have h0 : (0 : Int) ≤ (k : Int) := by omega
      have h1 : (k : Int) < (n : Int) := by omega
      clear hc0 hd0 hc1 hd1 hc2 hd2 hc3 hd3 hc4 hd4
      go_wp2_with fail
      refine wp_region_ext (by kernel_rfl) (by kernel_rfl) ?_
      repeat (go_big_quiet_step ((go_at_call 26; refine calls_ext (eqRTrap_same x _))))
      refine wpQuiet_nil ?_
      rintro _ ⟨⟨w1, hb1⟩, rfl⟩
      go_wp2
      go_roundw
      case rel => exact ⟨k + 1, by omega, by go_num, below_next hB hb1⟩
      case measure => simp [intOf]; omega
    · go_wp2
      go_ret
      exact ⟨rfl, hB⟩

end Go.Proofs.Ytoofkdlpjgokdaa
