/- Contracts of the functions that make traps: asTrap, DeviceTrap, FaultTrap, TrapOf, and of eqTrap. No conditions. -/
import Derived.Test.YtcdocgmikpccoaaTb
namespace Go.Proofs.Ytcdocgmikpccoaa
open Go.RowKit
set_option linter.unusedVariables false
set_option linter.unusedSimpArgs false

/-- a trap, or the zero trap -/
abbrev trapS (b : Bool) (c wi : Int) (s : Bool) (r i : Int) : Value := trapV (selI b c) (selI b wi) (selB b s) (selI b r) (selI b i)

set_option maxHeartbeats 1000000 in
theorem asTrap_any (c wi : Int) (s : Bool) (r i : Int) (w : World) :
    Calls Try.prog 96 #[trapV c wi s r i] w fun e w' => e = .returned (.tuple #[trapS (trapB c wi s r i) c wi s r i, .bool (trapB c wi s r i)]) ∧ Below w.heap.size w w' := by
  cases hT : trapB c wi s r i
  all_goals have HT := Lib.hid hT
  all_goals clear hT
  all_goals
    go_enter Try.func96, Try.ntmps96
    go_wp2_with fail
    refine (i_IsTrap_eq HT.out _).mono ?_
    rintro e w1 ⟨rfl, hb1⟩
    have B1 := ((Box.new w _ _).alloc _).keep hb1
    have C1 := B1.cell
    have F1 := B1.free
    have B2 := (Box.new (w.alloc _) _ _).keep hb1
    simp only [World.size_alloc] at B2
    have C2 := B2.cell
    have F2 := B2.free
    go_wp2
  · refine bodyPost_ret (v := .tuple #[trapV 0 0 false 0 0, .bool false]) (by simp [results, Try.results96, go_sem, C2, F2]) rfl ⟨rfl, ?_⟩
    repeat (refine Below.setCell ?_ (by simp) _)
    exact below_next (below_next (below_alloc _ _) (below_alloc _ _)) hb1
  · refine bodyPost_ret (v := .tuple #[trapV c wi s r i, .bool true]) (by simp [results, Try.results96, go_sem, C2, F2]) rfl ⟨rfl, ?_⟩
    repeat (refine Below.setCell ?_ (by simp) _)
    exact below_next (below_next (below_alloc _ _) (below_alloc _ _)) hb1

set_option maxHeartbeats 1000000 in
theorem i_DeviceTrap_any (i wi r : Int) (s : Bool) (w : World) :
    Calls Try.prog 30 #[.int .i64 i, .int .i64 wi, .int .i64 r, .bool s] w fun e w' => e = .returned (.tuple #[trapS (trapB 3 wi s r i) 3 wi s r i, .bool (trapB 3 wi s r i)]) ∧ Below w.heap.size w w' := by
  go_enter Try.func30, Try.ntmps30
  go_wp2_with fail
  refine (asTrap_any _ _ _ _ _ _).mono ?_
  rintro e w1 ⟨rfl, hb1⟩
  have B1 := (Box.new w _ _).keep hb1
  have C1 := B1.cell
  have F1 := B1.free
  go_wp2
  refine bodyPost_ret (v := .tuple #[trapS (trapB 3 wi s r i) 3 wi s r i, .bool (trapB 3 wi s r i)]) (by simp [results, Try.results30, go_sem, C1, F1]) rfl ⟨rfl, ?_⟩
  repeat (refine Below.setCell ?_ (by simp) _)
  exact below_next (below_alloc _ _) hb1

set_option maxHeartbeats 1000000 in
theorem s_DeviceTrap_any (i wi r : Int) (s : Bool) (w : World) :
    Calls Try.prog 31 #[.int .i64 i, .int .i64 wi, .int .i64 r, .bool s] w fun e w' => e = .returned (.tuple #[trapS (trapB 3 wi s r i) 3 wi s r i, .bool (trapB 3 wi s r i)]) ∧ Below w.heap.size w w' := by
  cases hT : trapB 3 wi s r i
  all_goals have HT := Lib.hid hT
  all_goals clear hT
  all_goals
    go_enter Try.func31, Try.ntmps31
    go_wp2_with fail
    refine (l5Good_eq HT.out _).mono ?_
    rintro e w1 ⟨rfl, hb1⟩
    have B1 := ((Box.new w _ _).alloc _).keep hb1
    have C1 := B1.cell
    have F1 := B1.free
    have B2 := (Box.new (w.alloc _) _ _).keep hb1
    simp only [World.size_alloc] at B2
    have C2 := B2.cell
    have F2 := B2.free
    go_wp2
  · refine bodyPost_ret (v := .tuple #[trapV 0 0 false 0 0, .bool false]) (by simp [results, Try.results31, go_sem, C1, F1]) rfl ⟨rfl, ?_⟩
    repeat (refine Below.setCell ?_ (by simp) _)
    exact below_next (below_next (below_alloc _ _) (below_alloc _ _)) hb1
  · refine bodyPost_ret (v := .tuple #[trapV 3 wi s r i, .bool true]) (by simp [results, Try.results31, go_sem, C1, F1]) rfl ⟨rfl, ?_⟩
    repeat (refine Below.setCell ?_ (by simp) _)
    exact below_next (below_next (below_alloc _ _) (below_alloc _ _)) hb1

set_option maxHeartbeats 1000000 in
theorem i_FaultTrap_any (i : Int) (s : Bool) (w : World) :
    Calls Try.prog 26 #[.int .i64 i, .bool s] w fun e w' => e = .returned (.tuple #[trapS (trapB 1 0 s 0 i) 1 0 s 0 i, .bool (trapB 1 0 s 0 i)]) ∧ Below w.heap.size w w' := by
  go_enter Try.func26, Try.ntmps26
  go_wp2_with fail
  refine (asTrap_any _ _ _ _ _ _).mono ?_
  rintro e w1 ⟨rfl, hb1⟩
  have B1 := (Box.new w _ _).keep hb1
  have C1 := B1.cell
  have F1 := B1.free
  go_wp2
  refine bodyPost_ret (v := .tuple #[trapS (trapB 1 0 s 0 i) 1 0 s 0 i, .bool (trapB 1 0 s 0 i)]) (by simp [results, Try.results26, go_sem, C1, F1]) rfl ⟨rfl, ?_⟩
  repeat (refine Below.setCell ?_ (by simp) _)
  exact below_next (below_alloc _ _) hb1

set_option maxHeartbeats 1000000 in
theorem s_FaultTrap_any (i : Int) (s : Bool) (w : World) :
    Calls Try.prog 27 #[.int .i64 i, .bool s] w fun e w' => e = .returned (.tuple #[trapS (trapB 1 0 s 0 i) 1 0 s 0 i, .bool (trapB 1 0 s 0 i)]) ∧ Below w.heap.size w w' := by
  cases hT : trapB 1 0 s 0 i
  all_goals have HT := Lib.hid hT
  all_goals clear hT
  all_goals
    go_enter Try.func27, Try.ntmps27
    go_wp2_with fail
    refine (l5Good_eq HT.out _).mono ?_
    rintro e w1 ⟨rfl, hb1⟩
    have B1 := ((Box.new w _ _).alloc _).keep hb1
    have C1 := B1.cell
    have F1 := B1.free
    have B2 := (Box.new (w.alloc _) _ _).keep hb1
    simp only [World.size_alloc] at B2
    have C2 := B2.cell
    have F2 := B2.free
    go_wp2
  · refine bodyPost_ret (v := .tuple #[trapV 0 0 false 0 0, .bool false]) (by simp [results, Try.results27, go_sem, C1, F1]) rfl ⟨rfl, ?_⟩
    repeat (refine Below.setCell ?_ (by simp) _)
    exact below_next (below_next (below_alloc _ _) (below_alloc _ _)) hb1
  · refine bodyPost_ret (v := .tuple #[trapV 1 0 s 0 i, .bool true]) (by simp [results, Try.results27, go_sem, C1, F1]) rfl ⟨rfl, ?_⟩
    repeat (refine Below.setCell ?_ (by simp) _)
    exact below_next (below_next (below_alloc _ _) (below_alloc _ _)) hb1

/-- a trap out of its syndrome -/
def ofB (n : Int) : Bool := trapB (n / 16777216) (bits .and .i64 (n / 1048576) 7) (bits .and .i64 (n / 8388608) 1 == 1) (bits .and .i64 (n / 65536) 15) (bits .and .i64 n 65535)
theorem ofB_neg {n : Int} (h : n < 0) : ofB n = false := by
  cases hT : ofB n with
  | false => rfl
  | true => unfold ofB at hT; have := trapB_cause hT; omega
abbrev trapN (n : Int) : Value := trapS (ofB n) (n / 16777216) (bits .and .i64 (n / 1048576) 7) (bits .and .i64 (n / 8388608) 1 == 1) (bits .and .i64 (n / 65536) 15) (bits .and .i64 n 65535)

set_option maxHeartbeats 1000000 in
theorem i_TrapOf_any (n : Int) (w : World) :
    Calls Try.prog 35 #[.int .i64 n] w fun e w' => e = .returned (.tuple #[trapN n, .bool (ofB n)]) ∧ Below w.heap.size w w' := by
  go_enter Try.func35, Try.ntmps35
  go_wp2_with fail
  refine (asTrap_any _ _ _ _ _ _).mono ?_
  rintro e w1 ⟨rfl, hb1⟩
  have B1 := (Box.new w _ _).keep hb1
  have C1 := B1.cell
  have F1 := B1.free
  go_wp2
  refine bodyPost_ret (v := .tuple #[trapN n, .bool (ofB n)]) (by simp [results, Try.results35, go_sem, C1, F1, ofB]) rfl ⟨rfl, ?_⟩
  repeat (refine Below.setCell ?_ (by simp) _)
  exact below_next (below_alloc _ _) hb1

set_option maxHeartbeats 2000000 in
theorem s_TrapOf_any (n : Int) (w : World) :
    Calls Try.prog 37 #[.int .i64 n] w fun e w' => e = .returned (.tuple #[trapN n, .bool (ofB n)]) ∧ Below w.heap.size w w' := by
  by_cases hn : n < 0
  · have hT := Lib.hid (ofB_neg hn)
    go_enter Try.func37, Try.ntmps37
    go_wp2
    refine bodyPost_ret (v := .tuple #[trapV 0 0 false 0 0, .bool false]) (by simp [results, Try.results37, go_sem]) rfl ⟨by rw [trapN, hT.out]; rfl, ?_⟩
    repeat (refine Below.setCell ?_ (by simp) _)
    exact below_alloc _ _
  · cases hT : ofB n
    all_goals have HT := Lib.hid hT
    all_goals clear hT
    all_goals
      go_enter Try.func37, Try.ntmps37
      go_wp2_with fail
      refine (l5Good_eq HT.out _).mono ?_
      rintro e w1 ⟨rfl, hb1⟩
      have B1 := ((Box.new w _ _).alloc _).keep hb1
      have C1 := B1.cell
      have F1 := B1.free
      have B2 := (Box.new (w.alloc _) _ _).keep hb1
      simp only [World.size_alloc] at B2
      have C2 := B2.cell
      have F2 := B2.free
      go_wp2
    · refine bodyPost_ret (v := .tuple #[trapV 0 0 false 0 0, .bool false]) (by simp [results, Try.results37, go_sem, C1, F1]) rfl ⟨by rw [trapN, HT.out]; rfl, ?_⟩
      repeat (refine Below.setCell ?_ (by simp) _)
      exact below_next (below_next (below_alloc _ _) (below_alloc _ _)) hb1
    · refine bodyPost_ret (v := .tuple #[trapV (n / 16777216) (bits .and .i64 (n / 1048576) 7) (bits .and .i64 (n / 8388608) 1 == 1) (bits .and .i64 (n / 65536) 15) (bits .and .i64 n 65535), .bool true]) (by simp [results, Try.results37, go_sem, C1, F1]) rfl ⟨by rw [trapN, HT.out]; rfl, ?_⟩
      repeat (refine Below.setCell ?_ (by simp) _)
      exact below_next (below_next (below_alloc _ _) (below_alloc _ _)) hb1
end Go.Proofs.Ytcdocgmikpccoaa
