/- Contracts of packed, PackInstruction, UnpackInstruction, eqInstruction. No conditions. -/
import Derived.Test.YtlahpnihnpmgoaaDoorGa
import Derived.Laws.BitsLemmas
namespace Go.Proofs.YtlahpnihnpmgoaaDoor
open Go.RowKit
set_option linter.unusedVariables false
set_option linter.unusedSimpArgs false

/-- the number that packed makes -/
def pakI (o a b n : Int) : Int := bits .or .i64 (bits .or .i64 (bits .or .i64 (wrap64 (o * 1048576)) (wrap64 (a * 262144))) (wrap64 (b * 65536))) n
set_option maxHeartbeats 1000000 in
theorem packed_any (o a b n : Int) (w : World) :
    Calls Tryd.prog 35 #[insV o a b n] w fun e w' => e = .returned (.int .i64 (pakI o a b n)) ∧ Below w.heap.size w w' := by
  go_enter Tryd.func35, Tryd.ntmps35
  go_wp2
  go_ret
  exact ⟨rfl, below_alloc _ _⟩

set_option maxHeartbeats 1000000 in
theorem i_PackInstruction_any (o a b n : Int) (w : World) :
    Calls Tryd.prog 14 #[insV o a b n] w fun e w' => e = .returned (.tuple #[.int .i64 (selI (insB o a b n) (pakI o a b n)), .bool (insB o a b n)]) ∧ Below w.heap.size w w' := by
  cases hT : insB o a b n
  all_goals have HT := Lib.hid hT
  all_goals clear hT
  all_goals
    go_enter Tryd.func14, Tryd.ntmps14
    go_wp2_with fail
    refine (i_IsInstruction_eq HT.out _).mono ?_
    rintro e w1 ⟨rfl, hb1⟩
    have C1 := ((Box.new w _ _).keep hb1).cell
    go_wp2_with fail
  · go_ret2
    exact ⟨rfl, below_next (below_alloc _ _) hb1⟩
  · refine (packed_any _ _ _ _ _).mono ?_
    rintro e w2 ⟨rfl, hb2⟩
    go_wp2
    go_ret2
    exact ⟨rfl, below_next (below_next (below_alloc _ _) hb1) hb2⟩

set_option maxHeartbeats 1000000 in
theorem s_PackInstruction_any (o a b n : Int) (w : World) :
    Calls Tryd.prog 15 #[insV o a b n] w fun e w' => e = .returned (.tuple #[.int .i64 (selI (insB o a b n) (pakI o a b n)), .bool (insB o a b n)]) ∧ Below w.heap.size w w' := by
  cases hT : insB o a b n
  all_goals have HT := Lib.hid hT
  all_goals clear hT
  all_goals
    go_enter Tryd.func15, Tryd.ntmps15
    go_wp2_with fail
    refine (l3One_eq HT.out _).mono ?_
    rintro e w1 ⟨rfl, hb1⟩
    have C1 := ((Box.new w _ _).keep hb1).cell
    go_wp2
    go_ret2
    exact ⟨rfl, below_next (below_alloc _ _) hb1⟩

/-- an instruction out of its number -/
def unB (n : Int) : Bool := insB (n / 1048576) (bits .and .i64 (n / 262144) 3) (bits .and .i64 (n / 65536) 3) (bits .and .i64 n 65535)
theorem insB_op {o a b n : Int} (h : insB o a b n = true) : 0 ≤ o ∧ o ≤ 9 := by
  unfold insB at h
  rw [Bool.and_eq_true] at h
  exact inB_iff.1 h.1
theorem unB_neg {n : Int} (h : n < 0) : unB n = false := by
  cases hT : unB n with
  | false => rfl
  | true => unfold unB at hT; have := insB_op hT; omega
theorem w40 (x : Int) (h0 : 0 ≤ x) (h1 : x < 2 ^ 40) : IntKind.i64.wrap x = x := by rw [IntKind.wrap_i64]; omega
theorem w64 {x : Int} (h0 : 0 ≤ x) (h1 : x < 1099511627776) : wrap64 x = x := by unfold wrap64; omega
theorem and3 (x : Int) (h0 : 0 ≤ x) (h1 : x < 1099511627776) : bits .and .i64 x 3 = x % 4 := bits_mask .i64 40 (by decide) w40 2 (by decide) x h0 h1
theorem and16 (x : Int) (h0 : 0 ≤ x) (h1 : x < 1099511627776) : bits .and .i64 x 65535 = x % 65536 := bits_mask .i64 40 (by decide) w40 16 (by decide) x h0 h1
theorem or20 (x y : Int) (hx₀ : 0 ≤ x) (hx : x % 1048576 = 0) (hx₁ : x < 1099511627776) (h₀ : 0 ≤ y) (h₁ : y < 1048576) : bits .or .i64 x y = x + y :=
  bits_join .i64 40 (by decide) w40 20 x y hx₀ hx hx₁ h₀ h₁ (by omega)
theorem or18 (x y : Int) (hx₀ : 0 ≤ x) (hx : x % 262144 = 0) (hx₁ : x < 1099511627776) (h₀ : 0 ≤ y) (h₁ : y < 262144) : bits .or .i64 x y = x + y :=
  bits_join .i64 40 (by decide) w40 18 x y hx₀ hx hx₁ h₀ h₁ (by omega)
theorem or16 (x y : Int) (hx₀ : 0 ≤ x) (hx : x % 65536 = 0) (hx₁ : x < 1099511627776) (h₀ : 0 ≤ y) (h₁ : y < 65536) : bits .or .i64 x y = x + y :=
  bits_join .i64 40 (by decide) w40 16 x y hx₀ hx hx₁ h₀ h₁ (by omega)
/-- the number of fields in their ranges -/
theorem pakI_eq {o a b n : Int} (ho : 0 ≤ o) (ho9 : o ≤ 9) (ha : 0 ≤ a) (ha3 : a ≤ 3) (hb : 0 ≤ b) (hb3 : b ≤ 3) (hn : 0 ≤ n) (hn6 : n ≤ 65535) : pakI o a b n = o * 1048576 + a * 262144 + b * 65536 + n := by
  unfold pakI
  rw [w64 (by omega) (by omega), w64 (by omega) (by omega), w64 (by omega) (by omega), or20 (o * 1048576) (a * 262144) (by omega) (by omega) (by omega) (by omega) (by omega), or18 (o * 1048576 + a * 262144) (b * 65536) (by omega) (by omega) (by omega) (by omega) (by omega), or16 (o * 1048576 + a * 262144 + b * 65536) n (by omega) (by omega) (by omega) (by omega) (by omega)]
theorem pak_un {n : Int} (h : unB n = true) : pakI (n / 1048576) (bits .and .i64 (n / 262144) 3) (bits .and .i64 (n / 65536) 3) (bits .and .i64 n 65535) = n := by
  have h1 := insB_op h
  have h2 : 0 ≤ n ∧ n < 10485760 := by omega
  rw [and3 _ (by omega) (by omega), and3 _ (by omega) (by omega), and16 _ (by omega) (by omega)]
  rw [pakI_eq (by omega) (by omega) (by omega) (by omega) (by omega) (by omega) (by omega) (by omega)]
  omega
abbrev insS (r : Bool) (o a b n : Int) : Value := insV (selI r o) (selI r a) (selI r b) (selI r n)
abbrev unV (n : Int) : Value := insV (n / 1048576) (bits .and .i64 (n / 262144) 3) (bits .and .i64 (n / 65536) 3) (bits .and .i64 n 65535)
abbrev insN (n : Int) : Value := insS (unB n) (n / 1048576) (bits .and .i64 (n / 262144) 3) (bits .and .i64 (n / 65536) 3) (bits .and .i64 n 65535)

set_option maxHeartbeats 400000 in
theorem eqInstruction_same (o a b n : Int) (w : World) :
    Calls Tryd.prog 11 #[insV o a b n, insV o a b n] w fun e w' => e = .returned (.bool true) ∧ Below w.heap.size w w' := by
  go_enter Tryd.func11, Tryd.ntmps11
  go_wp2
  go_ret
  exact ⟨rfl, below_next (below_alloc _ _) (below_alloc _ _)⟩

set_option maxHeartbeats 2000000 in
theorem s_UnpackInstruction_any (n : Int) (w : World) :
    Calls Tryd.prog 19 #[.int .i64 n] w fun e w' => e = .returned (.tuple #[insN n, .bool (unB n)]) ∧ Below w.heap.size w w' := by
  by_cases hn : n < 0
  · have hT := Lib.hid (unB_neg hn)
    go_enter Tryd.func19, Tryd.ntmps19
    go_wp2
    refine bodyPost_ret (v := .tuple #[insV 0 0 0 0, .bool false]) (by simp [results, Tryd.results19, go_sem]) rfl ⟨by rw [insN, hT.out]; rfl, ?_⟩
    repeat (refine Below.setCell ?_ (by simp) _)
    exact below_alloc _ _
  · cases hT : unB n
    all_goals have HT := Lib.hid hT
    all_goals clear hT
    all_goals
      go_enter Tryd.func19, Tryd.ntmps19
      go_wp2_with fail
      refine (l3One_eq HT.out _).mono ?_
      rintro e w1 ⟨rfl, hb1⟩
      have B1 := ((Box.new w _ _).alloc _).keep hb1
      have C1 := B1.cell
      have F1 := B1.free
      have B2 := (Box.new (w.alloc _) _ _).keep hb1
      simp only [World.size_alloc] at B2
      have C2 := B2.cell
      have F2 := B2.free
      go_wp2
    · refine bodyPost_ret (v := .tuple #[insV 0 0 0 0, .bool false]) (by simp [results, Tryd.results19, go_sem, C1, F1]) rfl ⟨by rw [insN, HT.out]; rfl, ?_⟩
      repeat (refine Below.setCell ?_ (by simp) _)
      exact below_next (below_next (below_alloc _ _) (below_alloc _ _)) hb1
    · refine bodyPost_ret (v := .tuple #[unV n, .bool true]) (by simp [results, Tryd.results19, go_sem, C1, F1]) rfl ⟨by rw [insN, HT.out]; rfl, ?_⟩
      repeat (refine Below.setCell ?_ (by simp) _)
      exact below_next (below_next (below_alloc _ _) (below_alloc _ _)) hb1

theorem packed_un {n : Int} (h : unB n = true) (w : World) :
    Calls Tryd.prog 35 #[unV n] w fun e w' => e = .returned (.int .i64 n) ∧ Below w.heap.size w w' := by
  have := packed_any (n / 1048576) (bits .and .i64 (n / 262144) 3) (bits .and .i64 (n / 65536) 3) (bits .and .i64 n 65535) w
  rwa [pak_un h] at this

set_option maxHeartbeats 2000000 in
theorem i_UnpackInstruction_any (n : Int) (w : World) :
    Calls Tryd.prog 17 #[.int .i64 n] w fun e w' => e = .returned (.tuple #[insN n, .bool (unB n)]) ∧ Below w.heap.size w w' := by
  cases hT : unB n
  all_goals have HT := Lib.hid hT
  all_goals clear hT
  all_goals
    go_enter Tryd.func17, Tryd.ntmps17
    go_wp2_with fail
    refine (i_IsInstruction_eq HT.out _).mono ?_
    rintro e w1 ⟨rfl, hb1⟩
    have B1 := ((Box.new w _ _).alloc _).keep hb1
    have C1 := B1.cell
    have F1 := B1.free
    have B2 := (Box.new (w.alloc _) _ _).keep hb1
    simp only [World.size_alloc] at B2
    have C2 := B2.cell
    have F2 := B2.free
    go_wp2_with fail
  · refine bodyPost_ret (v := .tuple #[insV 0 0 0 0, .bool false]) (by simp [results, Tryd.results17, go_sem, C1, F1]) rfl ⟨by rw [insN, HT.out]; rfl, ?_⟩
    repeat (refine Below.setCell ?_ (by simp) _)
    exact below_next (below_next (below_alloc _ _) (below_alloc _ _)) hb1
  · refine (packed_un HT.out _).mono ?_
    rintro e w2 ⟨rfl, hb2⟩
    have B3 := B1.keep hb2
    have C3 := B3.cell
    have F3 := B3.free
    have B4 := B2.keep hb2
    have C4 := B4.cell
    have F4 := B4.free
    go_wp2
    refine bodyPost_ret (v := .tuple #[unV n, .bool true]) (by simp [results, Tryd.results17, go_sem, C3, F3]) rfl ⟨by rw [insN, HT.out]; rfl, ?_⟩
    repeat (refine Below.setCell ?_ (by simp) _)
    exact below_next (below_next (below_next (below_alloc _ _) (below_alloc _ _)) hb1) hb2
end Go.Proofs.YtlahpnihnpmgoaaDoor
