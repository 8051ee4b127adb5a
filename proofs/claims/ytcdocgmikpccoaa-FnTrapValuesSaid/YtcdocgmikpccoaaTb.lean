/- Contracts of the functions on traps that stand on IsTrap: DoesRepeat, Syndrome, TrapName. No conditions but on ints' sizes. -/
import Derived.Test.YtcdocgmikpccoaaTa
import Derived.Deep.RegionHeld3
import Derived.Deep.MidRow
namespace Go.Proofs.Ytcdocgmikpccoaa
open Go.RowKit
set_option linter.unusedVariables false
set_option linter.unusedSimpArgs false

theorem l5Good_eq {c wi : Int} {s : Bool} {r i : Int} {b : Bool} (h : trapB c wi s r i = b) (w : World) :
    Calls Try.prog 91 #[trapV c wi s r i] w fun e w' => e = .returned (.bool b) ∧ Below w.heap.size w w' := by subst h; exact l5Good_any _ _ _ _ _ _
theorem i_IsTrap_eq {c wi : Int} {s : Bool} {r i : Int} {b : Bool} (h : trapB c wi s r i = b) (w : World) :
    Calls Try.prog 28 #[trapV c wi s r i] w fun e w' => e = .returned (.bool b) ∧ Below w.heap.size w w' := by subst h; exact i_IsTrap_any _ _ _ _ _ _

set_option maxHeartbeats 1000000 in
theorem s_DoesRepeat_any (c wi : Int) (s : Bool) (r i : Int) (w : World) :
    Calls Try.prog 39 #[trapV c wi s r i] w fun e w' => e = .returned (.tuple #[.bool (trapB c wi s r i && c == 1), .bool (trapB c wi s r i)]) ∧ Below w.heap.size w w' := by
  cases hT : trapB c wi s r i
  all_goals have HT := Lib.hid hT
  all_goals clear hT
  all_goals
    have hx := Ext.box (Box.new w 35 #[.int .i64 c, .int .i64 wi, .bool s, .int .i64 r, .int .i64 i])
    go_enter Try.func39, Try.ntmps39
    go_wp2_with fail
    refine wp_region_ext (by kernel_rfl) (by kernel_rfl) ?_
    repeat (go_big_quiet_step ((go_at_call 91; refine calls_ext (l5Good_eq HT.out _))))
    refine wpQuiet_nil ?_
    rintro _ ⟨⟨w1, hb1⟩, rfl⟩
    go_wp2
    go_ret2
    exact ⟨rfl, below_next (below_alloc _ _) hb1⟩

set_option maxHeartbeats 1000000 in
theorem i_DoesRepeat_any (c wi : Int) (s : Bool) (r i : Int) (w : World) :
    Calls Try.prog 38 #[trapV c wi s r i] w fun e w' => e = .returned (.tuple #[.bool (trapB c wi s r i && c == 1), .bool (trapB c wi s r i)]) ∧ Below w.heap.size w w' := by
  cases hT : trapB c wi s r i
  all_goals have HT := Lib.hid hT
  all_goals clear hT
  all_goals
    go_enter Try.func38, Try.ntmps38
    go_wp2_with fail
    refine (i_IsTrap_eq HT.out _).mono ?_
    rintro e w1 ⟨rfl, hb1⟩
    have C1 := ((Box.new w _ _).keep hb1).cell
    go_wp2
    go_ret2
    exact ⟨by simp, below_next (below_alloc _ _) hb1⟩

def selB (b : Bool) (x : Bool) : Bool := b && x

/-- the syndrome's number -/
def numI (c wi : Int) (s : Bool) (r i : Int) : Int :=
  if s then wrap64 (wrap64 (wrap64 (wrap64 (wrap64 (c * 16777216) + wrap64 (wi * 1048576)) + wrap64 (r * 65536)) + i) + 8388608)
  else wrap64 (wrap64 (wrap64 (wrap64 (c * 16777216) + wrap64 (wi * 1048576)) + wrap64 (r * 65536)) + i)

set_option maxHeartbeats 1000000 in
theorem numberOf_any (c wi : Int) (s : Bool) (r i : Int) (w : World) :
    Calls Try.prog 101 #[trapV c wi s r i] w fun e w' => e = .returned (.int .i64 (numI c wi s r i)) ∧ Below w.heap.size w w' := by
  cases s
  all_goals
    go_enter Try.func101, Try.ntmps101
    go_wp2
    go_ret
    exact ⟨rfl, below_alloc _ _⟩

set_option maxHeartbeats 1000000 in
theorem i_Syndrome_any (c wi : Int) (s : Bool) (r i : Int) (w : World) :
    Calls Try.prog 33 #[trapV c wi s r i] w fun e w' => e = .returned (.tuple #[.int .i64 (selI (trapB c wi s r i) (numI c wi s r i)), .bool (trapB c wi s r i)]) ∧ Below w.heap.size w w' := by
  cases hT : trapB c wi s r i
  all_goals have HT := Lib.hid hT
  all_goals clear hT
  all_goals
    go_enter Try.func33, Try.ntmps33
    go_wp2_with fail
    refine (i_IsTrap_eq HT.out _).mono ?_
    rintro e w1 ⟨rfl, hb1⟩
    have C1 := ((Box.new w _ _).keep hb1).cell
    go_wp2_with fail
  · go_ret2
    exact ⟨rfl, below_next (below_alloc _ _) hb1⟩
  · refine (numberOf_any _ _ _ _ _ _).mono ?_
    rintro e w2 ⟨rfl, hb2⟩
    go_wp2
    go_ret2
    exact ⟨rfl, below_next (below_next (below_alloc _ _) hb1) hb2⟩

set_option maxHeartbeats 1000000 in
theorem s_Syndrome_any (c wi : Int) (s : Bool) (r i : Int) (w : World) :
    Calls Try.prog 34 #[trapV c wi s r i] w fun e w' => e = .returned (.tuple #[.int .i64 (selI (trapB c wi s r i) (numI c wi s r i)), .bool (trapB c wi s r i)]) ∧ Below w.heap.size w w' := by
  cases hT : trapB c wi s r i
  all_goals have HT := Lib.hid hT
  all_goals clear hT
  · go_enter Try.func34, Try.ntmps34
    go_wp2_with fail
    refine (l5Good_eq HT.out _).mono ?_
    rintro e w1 ⟨rfl, hb1⟩
    go_wp2
    go_ret2
    exact ⟨rfl, below_next (below_alloc _ _) hb1⟩
  · cases s
    all_goals
      go_enter Try.func34, Try.ntmps34
      go_wp2_with fail
      refine (l5Good_eq HT.out _).mono ?_
      rintro e w1 ⟨rfl, hb1⟩
      have C1 := ((Box.new w _ _).keep hb1).cell
      go_wp2
      go_ret2
      exact ⟨rfl, below_next (below_alloc _ _) hb1⟩

/-- a trap's name -/
def nameB (c : Int) (s : Bool) : ByteArray :=
  ⟨((if c = 1 then [102, 97, 117, 108, 116] else if c = 2 then [99, 97, 108, 108] else if c = 3 then [100, 101, 118, 105, 99, 101] else if c = 4 then [119, 97, 105, 116] else [98, 97, 100]) ++ (if s then [32, 115, 116, 111, 114, 101] else []) : List UInt8).toArray⟩
def selS (b : Bool) (x : ByteArray) : ByteArray := if b then x else ⟨#[]⟩
theorem trapB_cause {c wi : Int} {s : Bool} {r i : Int} (h : trapB c wi s r i = true) : c = 1 ∨ c = 2 ∨ c = 3 ∨ c = 4 ∨ c = 5 := by
  unfold trapB at h
  split at h
  · exact .inl ‹_›
  · split at h
    · exact .inr (.inl ‹_›)
    · split at h
      · exact .inr (.inr (.inl ‹_›))
      · simp at h; omega

theorem name_at1 (w : World) : (Instr.index 106 (.agg #[.string ⟨#[]⟩, .string ⟨#[102, 97, 117, 108, 116]⟩, .string ⟨#[99, 97, 108, 108]⟩, .string ⟨#[100, 101, 118, 105, 99, 101]⟩, .string ⟨#[119, 97, 105, 116]⟩, .string ⟨#[98, 97, 100]⟩]) (.int .i64 1)).run Try.prog w = .ok (.string ⟨#[102, 97, 117, 108, 116]⟩) w := by kernel_rfl
theorem name_at2 (w : World) : (Instr.index 106 (.agg #[.string ⟨#[]⟩, .string ⟨#[102, 97, 117, 108, 116]⟩, .string ⟨#[99, 97, 108, 108]⟩, .string ⟨#[100, 101, 118, 105, 99, 101]⟩, .string ⟨#[119, 97, 105, 116]⟩, .string ⟨#[98, 97, 100]⟩]) (.int .i64 2)).run Try.prog w = .ok (.string ⟨#[99, 97, 108, 108]⟩) w := by kernel_rfl
theorem name_at3 (w : World) : (Instr.index 106 (.agg #[.string ⟨#[]⟩, .string ⟨#[102, 97, 117, 108, 116]⟩, .string ⟨#[99, 97, 108, 108]⟩, .string ⟨#[100, 101, 118, 105, 99, 101]⟩, .string ⟨#[119, 97, 105, 116]⟩, .string ⟨#[98, 97, 100]⟩]) (.int .i64 3)).run Try.prog w = .ok (.string ⟨#[100, 101, 118, 105, 99, 101]⟩) w := by kernel_rfl
theorem name_at4 (w : World) : (Instr.index 106 (.agg #[.string ⟨#[]⟩, .string ⟨#[102, 97, 117, 108, 116]⟩, .string ⟨#[99, 97, 108, 108]⟩, .string ⟨#[100, 101, 118, 105, 99, 101]⟩, .string ⟨#[119, 97, 105, 116]⟩, .string ⟨#[98, 97, 100]⟩]) (.int .i64 4)).run Try.prog w = .ok (.string ⟨#[119, 97, 105, 116]⟩) w := by kernel_rfl
theorem name_at5 (w : World) : (Instr.index 106 (.agg #[.string ⟨#[]⟩, .string ⟨#[102, 97, 117, 108, 116]⟩, .string ⟨#[99, 97, 108, 108]⟩, .string ⟨#[100, 101, 118, 105, 99, 101]⟩, .string ⟨#[119, 97, 105, 116]⟩, .string ⟨#[98, 97, 100]⟩]) (.int .i64 5)).run Try.prog w = .ok (.string ⟨#[98, 97, 100]⟩) w := by kernel_rfl

set_option maxHeartbeats 1000000 in
theorem i_TrapName_any (c wi : Int) (s : Bool) (r i : Int) (w : World) :
    Calls Try.prog 40 #[trapV c wi s r i] w fun e w' => e = .returned (.tuple #[.string (selS (trapB c wi s r i) (nameB c s)), .bool (trapB c wi s r i)]) ∧ Below w.heap.size w w' := by
  cases hT : trapB c wi s r i
  all_goals have HT := Lib.hid hT
  · clear hT
    go_enter Try.func40, Try.ntmps40
    go_wp2_with fail
    refine (i_IsTrap_eq HT.out _).mono ?_
    rintro e w1 ⟨rfl, hb1⟩
    go_wp2
    go_ret2
    exact ⟨rfl, below_next (below_alloc _ _) hb1⟩
  · have hc := trapB_cause hT
    clear hT
    have f1 := name_at1
    have f2 := name_at2
    have f3 := name_at3
    have f4 := name_at4
    have f5 := name_at5
    rcases hc with rfl | rfl | rfl | rfl | rfl <;> cases s
    all_goals
      go_enter Try.func40, Try.ntmps40
      go_wp2_with fail
      refine (i_IsTrap_eq HT.out _).mono ?_
      rintro e w1 ⟨rfl, hb1⟩
      have C1 := ((Box.new w _ _).keep hb1).cell
      go_wp2
      go_ret2
      exact ⟨rfl, below_next (below_alloc _ _) hb1⟩

set_option maxHeartbeats 1000000 in
theorem s_TrapName_any (c wi : Int) (s : Bool) (r i : Int) (w : World) :
    Calls Try.prog 41 #[trapV c wi s r i] w fun e w' => e = .returned (.tuple #[.string (selS (trapB c wi s r i) (nameB c s)), .bool (trapB c wi s r i)]) ∧ Below w.heap.size w w' := by
  cases hT : trapB c wi s r i
  all_goals have HT := Lib.hid hT
  · clear hT
    go_enter Try.func41, Try.ntmps41
    go_wp2_with fail
    refine (l5Good_eq HT.out _).mono ?_
    rintro e w1 ⟨rfl, hb1⟩
    go_wp2
    go_ret2
    exact ⟨rfl, below_next (below_alloc _ _) hb1⟩
  · have hc := trapB_cause hT
    clear hT
    rcases hc with rfl | rfl | rfl | rfl | rfl <;> cases s
    all_goals
      go_enter Try.func41, Try.ntmps41
      go_wp2_with fail
      refine (l5Good_eq HT.out _).mono ?_
      rintro e w1 ⟨rfl, hb1⟩
      have B1 := (Box.new w _ _).keep hb1
      have C1 := B1.cell
      have Z1 := B1.lt
      go_wp2
      go_ret2
      exact ⟨rfl, below_next (below_next (below_alloc _ _) hb1) (below_alloc _ _)⟩
end Go.Proofs.Ytcdocgmikpccoaa
