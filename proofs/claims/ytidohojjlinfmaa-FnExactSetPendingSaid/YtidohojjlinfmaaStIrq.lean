/- Contracts on records of Irq and slices of them: toIrq, toIrqS, eqIrq, eqIrqS, szIrqS. Lengths at most 2^20. -/
import Derived.Test.YtidohojjlinfmaaIn
import Derived.Test.YtidohojjlinfmaaSl
import Derived.Deep.RegionHeld3
namespace Go.Proofs.Ytidohojjlinfmaa
open Go.RowKit
set_option linter.unusedVariables false
set_option linter.unusedSimpArgs false

/-- a record of Irq -/
structure RIrq where
  f0 : Bool
  f1 : Bool
  f2 : Bool
  f3 : Int
  f4 : Int
def cIrq (x : RIrq) : List Value := [.bool x.f0, .bool x.f1, .bool x.f2, .int .i64 x.f3, .int .i64 x.f4]
abbrev vIrq (x : RIrq) : Value := .agg #[.bool x.f0, .bool x.f1, .bool x.f2, .int .i64 x.f3, .int .i64 x.f4]
theorem cIrq_len (x : RIrq) : (cIrq x).length = 5 := rfl
theorem posIrq : 0 < 5 := by decide
abbrev zIrq : RIrq := ⟨false, false, false, 0, 0⟩
abbrev tsIrq (A : Option Addr) (n c : Nat) (xs : List RIrq) : Thing := ⟨34, 5, A, n, c, J cIrq xs⟩
theorem Try.info34 : (Try.prog.info? 34).map (fun i => (i.zero, i.size, i.bytes)) = some (some (.agg #[.bool false, .bool false, .bool false, .int .i64 0, .int .i64 0]), 5, 24) := by kernel_rfl
theorem madeIrq (n : Nat) : (madeCells (Value.agg #[.bool false, .bool false, .bool false, .int .i64 0, .int .i64 0]).cells (n * 5)).toList = J cIrq (List.replicate n zIrq) := made_J (f := cIrq) (x := zIrq) cIrq_len posIrq rfl n
theorem atIrq {w : World} {A : Option Addr} {n k : Nat} {xs : List RIrq} (h : Rd w 5 A n (J cIrq xs)) (hk : k < n) :
    ∃ b o x, A = some ⟨b, o, none⟩ ∧ b < w.heap.size ∧ Hid (xs[k]? = some x) ∧ w.cell? ⟨b, o + k * 5, none⟩ = some (.bool x.f0) ∧ w.cell? ⟨b, o + k * 5 + 1, none⟩ = some (.bool x.f1) ∧ w.cell? ⟨b, o + k * 5 + 2, none⟩ = some (.bool x.f2) ∧ w.cell? ⟨b, o + k * 5 + 3, none⟩ = some (.int .i64 x.f3) ∧ w.cell? ⟨b, o + k * 5 + 4, none⟩ = some (.int .i64 x.f4) := by
  obtain ⟨b, o, x, hA, hb, hx, hc⟩ := h.atS posIrq cIrq_len hk
  exact ⟨b, o, x, hA, hb, hx, hc 0 _ rfl, by rw [Nat.add_assoc]; exact hc 1 _ rfl, by rw [Nat.add_assoc]; exact hc 2 _ rfl, by rw [Nat.add_assoc]; exact hc 3 _ rfl, by rw [Nat.add_assoc]; exact hc 4 _ rfl⟩
set_option maxHeartbeats 400000 in
theorem toIrq_any (x : RIrq) (w : World) :
    Calls Try.prog 18 #[vIrq x] w fun e w' => e = .returned (vIrq x) ∧ Below w.heap.size w w' := by
  go_enter Try.func18, Try.ntmps18
  go_wp2
  exact bodyPost_ret (v := vIrq x) (by simp [results, Try.results18, go_sem]) rfl ⟨rfl, ((Below.refl _ _).alloc (Nat.le_refl _) _).alloc (by simp) _ |>.alloc (by simp <;> omega) _⟩

set_option maxHeartbeats 400000 in
theorem eqIrq_same (x : RIrq) (w : World) :
    Calls Try.prog 23 #[vIrq x, vIrq x] w fun e w' => e = .returned (.bool true) ∧ Below w.heap.size w w' := by
  go_enter Try.func23, Try.ntmps23
  go_wp2
  go_ret
  exact ⟨rfl, below_next (below_alloc _ _) (below_alloc _ _)⟩

set_option maxHeartbeats 400000 in
theorem szIrqS_eq (A : Option Addr) (n c : Nat) (w : World) (hn : n ≤ 9223372036854775807) (r : Int) (hr : (if n ≤ 1048576 then 1048576 - (n : Int) else -1) = r) :
    Calls Try.prog 6 #[.slice A n c, .int .i64 1048576] w fun e w' => e = .returned (.int .i64 r) ∧ w = w' := by
  have HR := Lib.hid hr
  clear hr
  by_cases h : n ≤ 1048576
  all_goals
    go_enter Try.func6, Try.ntmps6
    go_wp2
    go_ret
    exact ⟨ret_int (by rw [← HR.out]; simp [h]), rfl⟩

set_option maxHeartbeats 2000000 in
theorem toIrqS_any (A : Option Addr) (n c : Nat) (xs : List RIrq) (w : World) (hr : Rd w 5 A n (J cIrq xs)) (hn : n ≤ 1048576) :
    Calls Try.prog 8 #[.slice A n c] w fun e w' => ∃ A' c', e = .returned (.slice A' n c') ∧ Own w' w.heap.size (tsIrq A' n c' xs) ∧ Below w.heap.size w w' := by
  have hlen := hr.lenS posIrq cIrq_len
  subst hlen
  obtain ⟨i0, hi, hz0, hz1, hz2⟩ := info_parts Try.info34
  go_enter Try.func8, Try.ntmps8
  go_wp2_with (at_make; refine wpList_make_full _ rfl _ _ 25 rfl w.heap.size 34 i0 (.agg #[.bool false, .bool false, .bool false, .int .i64 0, .int .i64 0]) 5 Try.underlying25 hi hz0 hz1 .i64 .i64 _ _ xs.length rfl rfl (by first | rfl | omega) (by first | rfl | omega) (by rw [hz2]; omega) (by unfold maxLen; omega) (Nat.le_refl _) ?_; intro w1 hown hgrow)
  rw [madeIrq] at hown
  have hb1 : Below w.heap.size w w1 := (Below.refl _ _).grown hgrow (Nat.le_refl _) (by simp)
  clear hgrow hi hz0 hz1 hz2
  go_loopw [4] (fun i wr => ∃ k : Nat, k ≤ xs.length ∧ i = .int .i64 k ∧ Own wr w.heap.size (tsIrq (some ⟨w.heap.size, 0, none⟩) xs.length xs.length (xs.take k ++ List.replicate (xs.length - k) zIrq)) ∧ Below w.heap.size w wr)
    (fun i _ => xs.length - (intOf i).toNat)
  case atStart => exact ⟨0, Nat.zero_le _, rfl, by simpa using hown, hb1⟩
  case round =>
    obtain ⟨k, hk, rfl, hO, hB⟩ := hrel
    by_cases hlt : k < xs.length
    · obtain ⟨b, o, x, rfl, hbl, hxk, hc0, hc1, hc2, hc3, hc4⟩ := atIrq (hr.keep hB) hlt
      have HO := Lib.hid hO
      clear hO
      go_wp2_with fail
      refine (toIrq_any _ _).mono ?_
      rintro e w2 ⟨rfl, hb2⟩
      have hO2 : Own w2 w.heap.size _ := World.ownsRow.kept (row := none) HO.out (grown_of_below hb2 _) (by right; rw [ownBlock_slice]; simp [blk])
      have hfk := fill_get xs zIrq k hlt
      have y0 : w2.cell? ⟨w.heap.size, k * 5, none⟩ = some (.bool false) := own_cellS (j := 0) cIrq_len hO2 hfk hlt (by decide) rfl
      have y1 : w2.cell? ⟨w.heap.size, k * 5 + 1, none⟩ = some (.bool false) := own_cellS (j := 1) cIrq_len hO2 hfk hlt (by decide) rfl
      have y2 : w2.cell? ⟨w.heap.size, k * 5 + 2, none⟩ = some (.bool false) := own_cellS (j := 2) cIrq_len hO2 hfk hlt (by decide) rfl
      have y3 : w2.cell? ⟨w.heap.size, k * 5 + 3, none⟩ = some (.int .i64 0) := own_cellS (j := 3) cIrq_len hO2 hfk hlt (by decide) rfl
      have y4 : w2.cell? ⟨w.heap.size, k * 5 + 4, none⟩ = some (.int .i64 0) := own_cellS (j := 4) cIrq_len hO2 hfk hlt (by decide) rfl
      have hfz : ∀ j, w2.frozen? ⟨w.heap.size, j, none⟩ = false := fun j => World.ownsRow.frozenAt hO2 j
      have P2 := own_putAll (cIrq x) w2 _ (k * 5) hO2
      rw [J_set cIrq_len _ k (by rw [fill_len xs zIrq k hk]; exact hlt) x, set_fillA xs zIrq k x hxk.out] at P2
      have HP2 := Lib.hid P2
      have HB2 := Lib.hid (below_next hB hb2)
      clear P2 hO2 hfk hb2
      go_wp2
      go_roundw
      case rel => exact ⟨k + 1, by omega, by go_num, HP2.out.1, putAll_below (cIrq x) (p := k * 5) HB2.out (Nat.le_refl _)⟩
      case measure => simp [intOf]; omega
    · have hkn : k = xs.length := by omega
      have HO := Lib.hid hO
      clear hO
      go_wp2
      go_ret
      refine ⟨_, _, rfl, ?_, hB⟩
      have := HO.out
      subst hkn
      simpa using this

set_option maxHeartbeats 2000000 in
theorem eqIrqS_same (A A' : Option Addr) (n c c' : Nat) (xs : List RIrq) (w : World) (hr : Rd w 5 A n (J cIrq xs)) (hr' : Rd w 5 A' n (J cIrq xs)) (hn : n ≤ 1048576) :
    Calls Try.prog 10 #[.slice A n c, .slice A' n c'] w fun e w' => e = .returned (.bool true) ∧ Below w.heap.size w w' := by
  have hnb : ((n : Int) != (n : Int)) = false := by simp
  go_enter Try.func10, Try.ntmps10
  go_wp2
  go_loopw [5] (fun i wr => ∃ k : Nat, k ≤ n ∧ i = .int .i64 k ∧ Below w.heap.size w wr) (fun i _ => n - (intOf i).toNat)
  case atStart => exact ⟨0, Nat.zero_le _, rfl, Below.refl _ _⟩
  case round =>
    obtain ⟨k, hk, rfl, hB⟩ := hrel
    clear hnb
    by_cases hlt : k < n
    · obtain ⟨b, o, x, rfl, hbl, hxk, hc0, hc1, hc2, hc3, hc4⟩ := atIrq (hr.keep hB) hlt
      obtain ⟨b', o', y, rfl, hbl', hyk, hd0, hd1, hd2, hd3, hd4⟩ := atIrq (hr'.keep hB) hlt
      obtain rfl : x = y := Option.some.inj (hxk.out.symm.trans hyk.out)
      have ex0 : ∀ q : Ext wr, q.1.cell? ⟨b, o + k * 5, none⟩ = some (.bool x.f0) := fun q => (Ext.cell b hbl q _).trans hc0
      have ex1 : ∀ q : Ext wr, q.1.cell? ⟨b, o + k * 5 + 1, none⟩ = some (.bool x.f1) := fun q => (Ext.cell b hbl q _).trans hc1
      have ex2 : ∀ q : Ext wr, q.1.cell? ⟨b, o + k * 5 + 2, none⟩ = some (.bool x.f2) := fun q => (Ext.cell b hbl q _).trans hc2
      have ex3 : ∀ q : Ext wr, q.1.cell? ⟨b, o + k * 5 + 3, none⟩ = some (.int .i64 x.f3) := fun q => (Ext.cell b hbl q _).trans hc3
      have ex4 : ∀ q : Ext wr, q.1.cell? ⟨b, o + k * 5 + 4, none⟩ = some (.int .i64 x.f4) := fun q => (Ext.cell b hbl q _).trans hc4
      have ey0 : ∀ q : Ext wr, q.1.cell? ⟨b', o' + k * 5, none⟩ = some (.bool x.f0) := fun q => (Ext.cell b' hbl' q _).trans hd0
      have ey1 : ∀ q : Ext wr, q.1.cell? ⟨b', o' + k * 5 + 1, none⟩ = some (.bool x.f1) := fun q => (Ext.cell b' hbl' q _).trans hd1
      have ey2 : ∀ q : Ext wr, q.1.cell? ⟨b', o' + k * 5 + 2, none⟩ = some (.bool x.f2) := fun q => (Ext.cell b' hbl' q _).trans hd2
      have ey3 : ∀ q : Ext wr, q.1.cell? ⟨b', o' + k * 5 + 3, none⟩ = some (.int .i64 x.f3) := fun q => (Ext.cell b' hbl' q _).trans hd3
      have ey4 : ∀ q : Ext wr, q.1.cell? ⟨b', o' + k * 5 + 4, none⟩ = some (.int .i64 x.f4) := fun q => (Ext.cell b' hbl' q _).trans hd4
      have h0 : (0 : Int) ≤ (k : Int) := by omega
      have h1 : (k : Int) < (n : Int) := by omega
      clear hc0 hd0 hc1 hd1 hc2 hd2 hc3 hd3 hc4 hd4
      go_wp2_with fail
      refine wp_region_ext (by kernel_rfl) (by kernel_rfl) ?_
      repeat (go_big_quiet_step ((go_at_call 23; refine calls_ext (eqIrq_same x _))))
      refine wpQuiet_nil ?_
      rintro _ ⟨⟨w1, hb1⟩, rfl⟩
      go_wp2
      go_roundw
      case rel => exact ⟨k + 1, by omega, by go_num, below_next hB hb1⟩
      case measure => simp [intOf]; omega
    · go_wp2
      go_ret
      exact ⟨rfl, hB⟩


/-- at the place of the first that meets p, or -1 -/
def FndIrq (p : RIrq → Bool) (l : List RIrq) (r : Int) : Prop := (r = -1 ∧ l.any p = false) ∨ (∃ k : Nat, r = k ∧ l.any p = true)
set_option maxHeartbeats 2000000 in
theorem indexFuncIrq (K : Nat) (hK : ∀ (x : RIrq) (w : World), (callFunc K #[vIrq x]).run Try.prog w = .ok (.enter K #[vIrq x]) w) (p : RIrq → Bool) (hp : ∀ x w b, p x = b → Calls Try.prog K #[vIrq x] w fun e w' => e = .returned (.bool b) ∧ Below w.heap.size w w')
    (A : Option Addr) (n c : Nat) (xs : List RIrq) (w : World) (hr : Rd w 5 A n (J cIrq xs)) (hn : n ≤ 4503599627370496) :
    Calls Try.prog 31 #[.slice A n c, .func (.func K) #[] #[]] w fun e w' => ∃ r, e = .returned (.int .i64 r) ∧ FndIrq p xs r ∧ Below w.heap.size w w' := by
  have hl := hr.lenS posIrq cIrq_len
  have HP := Lib.hid hp
  clear hp
  go_enter Try.func31, Try.ntmps31
  go_wp2
  go_loopw [5, 8] (fun j i wr => ∃ k : Nat, k ≤ n ∧ i = .int .i64 k ∧ Hid ((xs.take k).any p = false) ∧ Below w.heap.size w wr) (fun _ i _ => n - (intOf i).toNat)
  case atStart => exact ⟨0, Nat.zero_le _, rfl, by rfl, Below.refl _ _⟩
  case round =>
    obtain ⟨k, hk, rfl, ht, hB⟩ := hrel
    by_cases hlt : k < n
    · obtain ⟨b, o, x, rfl, hbl, hxk, hc0, hc1, hc2, hc3, hc4⟩ := atIrq (hr.keep hB) hlt
      cases hpx : p x
      all_goals have HX := Lib.hid hpx
      all_goals clear hpx
      · go_wp2_with fail
        refine (HP.out x _ _ HX.out).mono ?_
        rintro e w1 ⟨rfl, hb1⟩
        go_wp2
        go_roundw
        case rel => exact ⟨k + 1, by omega, by go_num, any_snocA ht.out hxk.out HX.out, below_next hB hb1⟩
        case measure => simp [intOf]; omega
      · go_wp2_with fail
        refine (HP.out x _ _ HX.out).mono ?_
        rintro e w1 ⟨rfl, hb1⟩
        go_wp2
        go_ret
        exact ⟨_, rfl, .inr ⟨k, rfl, List.any_eq_true.2 ⟨x, List.mem_of_getElem? hxk.out, HX.out⟩⟩, below_next hB hb1⟩
    · go_wp2
      go_ret
      refine ⟨_, rfl, .inl ⟨rfl, ?_⟩, hB⟩
      have := ht.out
      rwa [List.take_of_length_le (by omega)] at this

set_option maxHeartbeats 1000000 in
theorem containsFuncIrq (K : Nat) (hK : ∀ (x : RIrq) (w : World), (callFunc K #[vIrq x]).run Try.prog w = .ok (.enter K #[vIrq x]) w) (p : RIrq → Bool) (hp : ∀ x w b, p x = b → Calls Try.prog K #[vIrq x] w fun e w' => e = .returned (.bool b) ∧ Below w.heap.size w w')
    (A : Option Addr) (n c : Nat) (xs : List RIrq) (w : World) (hr : Rd w 5 A n (J cIrq xs)) (hn : n ≤ 4503599627370496) (r : Bool) (hT : xs.any p = r) :
    Calls Try.prog 19 #[.slice A n c, .func (.func K) #[] #[]] w fun e w' => e = .returned (.bool r) ∧ Below w.heap.size w w' := by
  have HP := Lib.hid hp
  clear hp
  have HT := Lib.hid hT
  clear hT
  go_enter Try.func19, Try.ntmps19
  go_wp2_with fail
  refine (indexFuncIrq K hK p HP.out A n c xs _ hr hn).mono ?_
  rintro e w1 ⟨q, rfl, hq, hb1⟩
  rcases hq with ⟨rfl, h1⟩ | ⟨k, rfl, h5⟩
  · rw [HT.out] at h1
    subst h1
    go_wp2
    go_ret
    exact ⟨rfl, hb1⟩
  · rw [HT.out] at h5
    subst h5
    have h6 : (0 : Int) ≤ (k : Int) := by omega
    go_wp2
    go_ret
    exact ⟨rfl, hb1⟩

end Go.Proofs.Ytidohojjlinfmaa
