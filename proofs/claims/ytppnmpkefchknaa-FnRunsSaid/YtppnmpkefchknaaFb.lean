/- Contracts of framesOf, l2Of, FramesOf, isGuest, l2Guest, given. Lengths at most 2^20. -/
import Derived.Test.YtppnmpkefchknaaFa
namespace Go.Proofs.Ytppnmpkefchknaa
open Go.RowKit
set_option linter.unusedVariables false
set_option linter.unusedSimpArgs false

/-- the places below k that hold g -/
def upTo (xs : List Int) (g : Int) (k : Nat) : List Int := ((List.range k).filter fun i => xs[i]? == some g).map fun i : Nat => (i : Int)
/-- the frames of a guest -/
def framesL (xs : List Int) (g : Int) : List Int := upTo xs g xs.length
theorem upTo_len (xs : List Int) (g : Int) (k : Nat) : (upTo xs g k).length ≤ k := by
  unfold upTo; rw [List.length_map]; exact Nat.le_trans (List.length_filter_le _ _) (by simp)
theorem upTo_hit {xs : List Int} {g : Int} {k : Nat} (h : xs[k]? = some g) : upTo xs g (k + 1) = upTo xs g k ++ [(k : Int)] := by
  unfold upTo; rw [List.range_succ, List.filter_append, List.map_append]; simp [h]
theorem upTo_miss {xs : List Int} {g x : Int} {k : Nat} (h : xs[k]? = some x) (hx : x ≠ g) : upTo xs g (k + 1) = upTo xs g k := by
  unfold upTo; rw [List.range_succ, List.filter_append, List.map_append]; simp [h, hx]

/-- what the loop over the frames keeps -/
def FrInv (w : World) (xs : List Int) (g : Int) (o : Value) (k : Nat) (wr : World) : Prop :=
  ∃ A c, o = .slice A (upTo xs g k).length c ∧ Own wr w.heap.size (ti A (upTo xs g k).length c (upTo xs g k)) ∧ Below w.heap.size w wr

set_option maxHeartbeats 2000000 in
theorem framesOf_any (A : Option Addr) (n c : Nat) (xs : List Int) (g : Int) (w : World) (hr : Rd w 1 A n (I xs)) (hn : n ≤ 1048576) :
    Calls Try.prog 58 #[.slice A n c, .int .i64 g] w fun e w' => ∃ A' c', e = .returned (.slice A' (framesL xs g).length c') ∧ Own w' w.heap.size (ti A' (framesL xs g).length c' (framesL xs g)) ∧ Below w.heap.size w w' := by
  have hl := hr.len
  obtain ⟨i0, hi, hz0, hz1, hz2⟩ := info_parts Try.info3
  go_enter Try.func58, Try.ntmps58
  go_wp2
  go_loopw [5, 6, 7, 11] (fun o j x i wr => ∃ k : Nat, k ≤ n ∧ i = .int .i64 k ∧ FrInv w xs g o k wr) (fun _ _ _ i _ => n - (intOf i).toNat)
  case atStart =>
    exact ⟨0, Nat.zero_le _, rfl, some ⟨w.heap.size, 0, none⟩, 0, rfl, World.ownsRow_made w #[] 0 (Nat.le_refl _) (Nat.zero_le _) rfl, below_alloc w _⟩
  case round =>
    obtain ⟨k, hk, rfl, A1, c1, rfl, hO, hB⟩ := hrel
    by_cases hlt : k < n
    · obtain ⟨b, o, x, rfl, hbl, hxk, hc⟩ := (hr.keep hB).at_ hlt
      have hul := upTo_len xs g k
      by_cases hxg : x = g
      · subst hxg
        have hU := Lib.hid (upTo_hit hxk.out)
        have hsz : w.heap.size ≤ wr.heap.size := hB.size
        go_wp2_with (at_builtin; refine wpList_app _ rfl _ _ 34 rfl w.heap.size 3 i0 (.int .i64 0) 1 8 Try.underlying34 hi hz0 hz1 hz2 rfl (by decide) _ _ _ _ rfl (World.ownsRow.alloc hO _) _ _ _ _ rfl (Rd.one _ _ _) (by simp [Value.oneCell']) (by unfold maxLen; omega) (by omega) (by simp; omega) ?_; intro A' c' w1 hown hgrow hat)
        go_roundw
        case rel =>
          refine ⟨k + 1, by omega, by go_num, A', c', ?_, ?_, ?_⟩
          · rw [hU.out]; simp
          · rw [hU.out, List.length_append, ti, I_append]; exact hown
          · exact below_app (hB.alloc hsz _) (by simp; omega) (World.ownsRow.alloc hO _) hgrow
        case measure => simp [intOf]; omega
      · have hne : (x == g) = false := by simp [hxg]
        have hU := Lib.hid (upTo_miss hxk.out hxg)
        go_wp2
        go_roundw
        case rel => exact ⟨k + 1, by omega, by go_num, A1, c1, by rw [hU.out], by rw [hU.out]; exact hO, hB⟩
        case measure => simp [intOf]; omega
    · have hkn : k = xs.length := by omega
      have HO := Lib.hid hO
      clear hO
      go_wp2
      go_ret
      subst hkn
      exact ⟨A1, c1, rfl, HO.out, hB⟩
set_option maxHeartbeats 2000000 in
theorem l2Of_any (A : Option Addr) (n c : Nat) (xs : List Int) (g : Int) (w : World) (hr : Rd w 1 A n (I xs)) (hn : n ≤ 1048576) :
    Calls Try.prog 63 #[.slice A n c, .int .i64 g] w fun e w' => ∃ A' c', e = .returned (.slice A' (framesL xs g).length c') ∧ Own w' w.heap.size (ti A' (framesL xs g).length c' (framesL xs g)) ∧ Below w.heap.size w w' := by
  have hl := hr.len
  obtain ⟨i0, hi, hz0, hz1, hz2⟩ := info_parts Try.info3
  go_enter Try.func63, Try.ntmps63
  go_wp2
  go_loopw [5, 6] (fun o i wr => ∃ k : Nat, k ≤ n ∧ i = .int .i64 k ∧ FrInv w xs g o k wr) (fun _ i _ => n - (intOf i).toNat)
  case atStart =>
    exact ⟨0, Nat.zero_le _, rfl, some ⟨w.heap.size, 0, none⟩, 0, rfl, World.ownsRow_made w #[] 0 (Nat.le_refl _) (Nat.zero_le _) rfl, below_alloc w _⟩
  case round =>
    obtain ⟨k, hk, rfl, A1, c1, rfl, hO, hB⟩ := hrel
    by_cases hlt : k < n
    · obtain ⟨b, o, x, rfl, hbl, hxk, hc⟩ := (hr.keep hB).at_ hlt
      have hul := upTo_len xs g k
      by_cases hxg : x = g
      · subst hxg
        have hU := Lib.hid (upTo_hit hxk.out)
        have hsz : w.heap.size ≤ wr.heap.size := hB.size
        go_wp2_with (at_builtin; refine wpList_app _ rfl _ _ 34 rfl w.heap.size 3 i0 (.int .i64 0) 1 8 Try.underlying34 hi hz0 hz1 hz2 rfl (by decide) _ _ _ _ rfl (World.ownsRow.alloc hO _) _ _ _ _ rfl (Rd.one _ _ _) (by simp [Value.oneCell']) (by unfold maxLen; omega) (by omega) (by simp; omega) ?_; intro A' c' w1 hown hgrow hat)
        go_roundw
        case rel =>
          refine ⟨k + 1, by omega, by go_num, A', c', ?_, ?_, ?_⟩
          · rw [hU.out]; simp
          · rw [hU.out, List.length_append, ti, I_append]; exact hown
          · exact below_app (hB.alloc hsz _) (by simp; omega) (World.ownsRow.alloc hO _) hgrow
        case measure => simp [intOf]; omega
      · have hne : (x == g) = false := by simp [hxg]
        have hU := Lib.hid (upTo_miss hxk.out hxg)
        go_wp2
        go_roundw
        case rel => exact ⟨k + 1, by omega, by go_num, A1, c1, by rw [hU.out], by rw [hU.out]; exact hO, hB⟩
        case measure => simp [intOf]; omega
    · have hkn : k = xs.length := by omega
      have HO := Lib.hid hO
      clear hO
      go_wp2
      go_ret
      subst hkn
      exact ⟨A1, c1, rfl, HO.out, hB⟩

set_option maxHeartbeats 400000 in
theorem isGuest_eq {g : Int} {r : Bool} (h : inB g 1 4 = r) (w : World) :
    Calls Try.prog 56 #[.int .i64 g] w fun e w' => e = .returned (.bool r) ∧ w = w' := by
  go_enter Try.func56, Try.ntmps56
  go_wp2_with fail
  refine (inside_eq h _).mono ?_
  rintro e w1 ⟨rfl, rfl⟩
  go_wp2
  go_ret
  exact ⟨rfl, rfl⟩

set_option maxHeartbeats 400000 in
theorem l2Guest_eq (A : Option Addr) (n c : Nat) (xs : List Int) (g : Int) (w : World) (hr : Rd w 1 A n (I xs)) (hn : n ≤ 1048576) {r : Bool} (h : (ownB xs && inB g 1 4) = r) :
    Calls Try.prog 61 #[.slice A n c, .int .i64 g] w fun e w' => e = .returned (.bool r) ∧ w = w' := by
  cases hT : ownB xs
  all_goals have HT := Lib.hid hT
  all_goals rw [hT] at h
  all_goals clear hT
  · have hr0 : r = false := by simpa using h.symm
    subst hr0
    clear h
    go_enter Try.func61, Try.ntmps61
    go_wp2_with fail
    refine (l2Good_eq _ _ _ xs _ hr (by omega) _ HT.out).mono ?_
    rintro e w1 ⟨rfl, rfl⟩
    go_wp2
    go_ret
    exact ⟨rfl, rfl⟩
  · have hr0 : inB g 1 4 = r := by simpa using h
    have HG := Lib.hid hr0
    clear h hr0
    go_enter Try.func61, Try.ntmps61
    go_wp2_with fail
    refine (l2Good_eq _ _ _ xs _ hr (by omega) _ HT.out).mono ?_
    rintro e w1 ⟨rfl, rfl⟩
    go_wp2_with fail
    refine (l1In_eq HG.out _).mono ?_
    rintro e w1 ⟨rfl, rfl⟩
    go_wp2
    go_ret
    exact ⟨rfl, rfl⟩

def framesOk (xs : List Int) (g : Int) : Bool := ownB xs && inB g 0 4

set_option maxHeartbeats 1000000 in
theorem i_FramesOf_any (A : Option Addr) (n c : Nat) (xs : List Int) (g : Int) (w : World) (hr : Rd w 1 A n (I xs)) (hn : n ≤ 1048576) :
    Calls Try.prog 23 #[.slice A n c, .int .i64 g] w fun e w' => ∃ A' c', e = .returned (.tuple #[.slice A' (selL (framesOk xs g) (framesL xs g)).length c', .bool (framesOk xs g)]) ∧ Own w' w.heap.size (ti A' (selL (framesOk xs g) (framesL xs g)).length c' (selL (framesOk xs g) (framesL xs g))) ∧ Below w.heap.size w w' := by
  unfold framesOk
  cases hT : ownB xs
  all_goals have HT := Lib.hid hT
  all_goals clear hT
  · go_enter Try.func23, Try.ntmps23
    go_wp2_with fail
    refine (i_AreOwners_eq _ _ _ xs _ hr (by omega) _ HT.out).mono ?_
    rintro e w1 ⟨rfl, rfl⟩
    go_wp2
    go_ret2
    exact ⟨none, 0, rfl, own_nil _ _, Below.refl _ _⟩
  · cases hG : inB g 0 4
    all_goals have HG := Lib.hid hG
    all_goals clear hG
    · go_enter Try.func23, Try.ntmps23
      go_wp2_with fail
      refine (i_AreOwners_eq _ _ _ xs _ hr (by omega) _ HT.out).mono ?_
      rintro e w1 ⟨rfl, rfl⟩
      go_wp2_with fail
      refine (inside_eq HG.out _).mono ?_
      rintro e w1 ⟨rfl, rfl⟩
      go_wp2
      go_ret2
      exact ⟨none, 0, rfl, own_nil _ _, Below.refl _ _⟩
    · go_enter Try.func23, Try.ntmps23
      go_wp2_with fail
      refine (i_AreOwners_eq _ _ _ xs _ hr (by omega) _ HT.out).mono ?_
      rintro e w1 ⟨rfl, rfl⟩
      go_wp2_with fail
      refine (inside_eq HG.out _).mono ?_
      rintro e w1 ⟨rfl, rfl⟩
      go_wp2_with fail
      refine (framesOf_any _ _ _ xs _ _ hr hn).mono ?_
      rintro e w1 ⟨A1, c1, rfl, ho, hb⟩
      go_wp2
      go_ret2
      exact ⟨A1, c1, rfl, ho, hb⟩

set_option maxHeartbeats 1000000 in
theorem s_FramesOf_any (A : Option Addr) (n c : Nat) (xs : List Int) (g : Int) (w : World) (hr : Rd w 1 A n (I xs)) (hn : n ≤ 1048576) :
    Calls Try.prog 24 #[.slice A n c, .int .i64 g] w fun e w' => ∃ A' c', e = .returned (.tuple #[.slice A' (selL (framesOk xs g) (framesL xs g)).length c', .bool (framesOk xs g)]) ∧ Own w' w.heap.size (ti A' (selL (framesOk xs g) (framesL xs g)).length c' (selL (framesOk xs g) (framesL xs g))) ∧ Below w.heap.size w w' := by
  unfold framesOk
  cases hT : ownB xs
  all_goals have HT := Lib.hid hT
  all_goals clear hT
  · go_enter Try.func24, Try.ntmps24
    go_wp2_with fail
    refine (l2Good_eq _ _ _ xs _ hr (by omega) _ HT.out).mono ?_
    rintro e w1 ⟨rfl, rfl⟩
    go_wp2
    go_ret2
    exact ⟨_, 0, rfl, own_new0 _ _ rfl, below_alloc _ _⟩
  · cases hG : inB g 0 4
    all_goals have HG := Lib.hid hG
    all_goals clear hG
    · go_enter Try.func24, Try.ntmps24
      go_wp2_with fail
      refine (l2Good_eq _ _ _ xs _ hr (by omega) _ HT.out).mono ?_
      rintro e w1 ⟨rfl, rfl⟩
      go_wp2_with fail
      refine (l1In_eq HG.out _).mono ?_
      rintro e w1 ⟨rfl, rfl⟩
      go_wp2
      go_ret2
      exact ⟨_, 0, rfl, own_new0 _ _ rfl, below_alloc _ _⟩
    · go_enter Try.func24, Try.ntmps24
      go_wp2_with fail
      refine (l2Good_eq _ _ _ xs _ hr (by omega) _ HT.out).mono ?_
      rintro e w1 ⟨rfl, rfl⟩
      go_wp2_with fail
      refine (l1In_eq HG.out _).mono ?_
      rintro e w1 ⟨rfl, rfl⟩
      go_wp2_with fail
      refine (l2Of_any _ _ _ xs _ _ hr hn).mono ?_
      rintro e w1 ⟨A1, c1, rfl, ho, hb⟩
      go_wp2
      go_ret2
      exact ⟨A1, c1, rfl, ho, hb⟩
end Go.Proofs.Ytppnmpkefchknaa
