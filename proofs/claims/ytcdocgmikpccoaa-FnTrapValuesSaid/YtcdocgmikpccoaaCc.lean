/- Contracts of CountCauses in the program and in the reference. Lengths at most 2^20. -/
import Derived.Test.YtcdocgmikpccoaaStTrap
import Derived.Test.YtcdocgmikpccoaaTb
namespace Go.Proofs.Ytcdocgmikpccoaa
open Go.RowKit
set_option linter.unusedVariables false
set_option linter.unusedSimpArgs false

def tOk (x : RTrap) : Bool := trapB x.f0 x.f1 x.f2 x.f3 x.f4
def cnS (l : List Int) (x : RTrap) : List Int := l.set (x.f0 - 1).toNat ((l[(x.f0 - 1).toNat]?.getD 0) + 1)
/-- how many traps have each cause -/
def cnF (xs : List RTrap) : List Int := xs.foldl cnS [0, 0, 0, 0, 0]
def ccOk (xs : List RTrap) : Bool := decide (xs.length ≤ 50) && !xs.any (fun x => !tOk x)
theorem cnF_at {xs : List RTrap} {k : Nat} {x : RTrap} (h : xs[k]? = some x) : cnF (xs.take (k + 1)) = cnS (cnF (xs.take k)) x := by
  rw [List.take_add_one, h]; simp [cnF]
theorem cnF_inv (xs : List RTrap) : ∀ k, k ≤ xs.length → (cnF (xs.take k)).length = 5 ∧ ∀ (j : Nat) (y : Int), (cnF (xs.take k))[j]? = some y → 0 ≤ y ∧ y ≤ k
  | 0, _ => by
    refine ⟨rfl, fun j y h => ?_⟩
    have : y ∈ [(0 : Int), 0, 0, 0, 0] := List.mem_of_getElem? h
    simp at this; omega
  | k + 1, hk => by
    obtain ⟨h1, h2⟩ := cnF_inv xs k (by omega)
    have hx : xs[k]? = some xs[k] := List.getElem?_eq_getElem (by omega)
    rw [cnF_at hx]
    refine ⟨by simp [cnS, h1], fun j y h => ?_⟩
    unfold cnS at h
    rw [List.getElem?_set] at h
    split at h
    · split at h
      · cases h
        rename_i hj hlt
        have hy : (cnF (xs.take k))[(xs[k].f0 - 1).toNat]? = some ((cnF (xs.take k))[(xs[k].f0 - 1).toNat]'hlt) := List.getElem?_eq_getElem hlt
        have := h2 _ _ hy
        rw [hy]; simp only [Option.getD_some]; omega
      · cases h
    · have := h2 _ _ h; omega
theorem cnF_len5 (xs : List RTrap) : (cnF xs).length = 5 := by
  have := (cnF_inv xs xs.length (Nat.le_refl _)).1
  rwa [List.take_length] at this
theorem selL_len5 (b : Bool) (xs : List RTrap) : (selL b (cnF xs)).length ≤ 1048576 := by
  unfold selL; split
  · rw [cnF_len5]; omega
  · simp

/-- what the loop that counts keeps -/
def CcInv (w : World) (xs : List RTrap) (k : Nat) (wr : World) : Prop :=
  ∃ L : List Int, Own wr w.heap.size (ti (some ⟨w.heap.size, 0, none⟩) 5 5 L) ∧ Hid (L = cnF (xs.take k)) ∧ Hid ((xs.take k).any (fun x => !tOk x) = false) ∧ Below w.heap.size w wr

theorem ccOk_no {xs : List RTrap} {k : Nat} {x : RTrap} (hx : xs[k]? = some x) (h : tOk x = false) : ccOk xs = false := by
  have : xs.any (fun x => !tOk x) = true := List.any_eq_true.2 ⟨x, List.mem_of_getElem? hx, by simp [h]⟩
  simp [ccOk, this]
theorem info_int_made (w1 : World) (B : Nat) (h : w1.ownsRow B 3 1 (.slice (some ⟨B, 0, none⟩) 5 5) 5 (madeCells (Value.int .i64 0).cells (5 * 1)).toList) : Own w1 B (ti (some ⟨B, 0, none⟩) 5 5 [0, 0, 0, 0, 0]) := by
  rw [madeCells_int] at h
  exact h

set_option maxHeartbeats 4000000 in
theorem s_CountCauses_any (A : Option Addr) (n c : Nat) (xs : List RTrap) (w : World) (hr : Rd w 5 A n (J cTrap xs)) (hn : n ≤ 1048576) :
    Calls Try.prog 44 #[.slice A n c] w fun e w' => ∃ A' c', e = .returned (.tuple #[.slice A' (selL (ccOk xs) (cnF xs)).length c', .bool (ccOk xs)]) ∧ Own w' w.heap.size (ti A' (selL (ccOk xs) (cnF xs)).length c' (selL (ccOk xs) (cnF xs))) ∧ Below w.heap.size w w' := by
  have HL := Lib.hid (hr.lenS posTrap cTrap_len)
  obtain ⟨i0, hi, hz0, hz1, hz2⟩ := info_parts Try.info3
  go_enter Try.func44, Try.ntmps44
  by_cases h50 : n ≤ 50
  · have h51 : ¬ (50 : Int) < (n : Int) := by omega
    go_wp2_with (at_make; refine wpList_make_full _ rfl _ _ 36 rfl w.heap.size 3 i0 (.int .i64 0) 1 Try.underlying36 hi hz0 hz1 .i64 .i64 _ _ 5 rfl rfl (by first | rfl | omega) (by first | rfl | omega) (by rw [hz2]; omega) (by unfold maxLen; omega) (Nat.le_refl _) ?_; intro w1 hown hgrow; have hown1 := info_int_made _ _ hown; have hb1 : Below w.heap.size w w1 := (Below.refl _ _).grown hgrow (Nat.le_refl _) (by simp); clear hown hgrow hi hz0 hz1 hz2)
    have HO1 := Lib.hid hown1
    clear hown1
    go_loopw [5] (fun i wr => ∃ k : Nat, k ≤ n ∧ i = .int .i64 k ∧ CcInv w xs k wr) (fun i _ => n - (intOf i).toNat)
    case atStart => exact ⟨0, Nat.zero_le _, rfl, _, HO1.out, rfl, rfl, hb1⟩
    case round =>
      obtain ⟨k, hk, rfl, L, hO, HLc, HA, hB⟩ := hrel
      by_cases hlt : k < n
      · obtain ⟨b, o, x, rfl, hbl, hxk, hc0, hc1, hc2, hc3, hc4⟩ := atTrap (hr.keep hB) hlt
        cases hx : tOk x
        all_goals have HX := Lib.hid hx
        · clear hx
          go_wp2_with fail
          refine (l5Good_eq HX.out _).mono ?_
          rintro e w2 ⟨rfl, hb2⟩
          go_wp2
          go_ret2
          rw [ccOk_no hxk.out HX.out]
          exact ⟨_, _, rfl, own_empty 1 (Box.new w2 _ _) (Nat.le_trans hB.size hb2.size), below_next (below_next hB hb2) (below_alloc _ _)⟩
        · obtain ⟨j, hj, hj5⟩ : ∃ j : Nat, x.f0 = (j : Int) + 1 ∧ j < 5 := by
            rcases trapB_cause hx with h | h | h | h | h
            · exact ⟨0, by omega, by omega⟩
            · exact ⟨1, by omega, by omega⟩
            · exact ⟨2, by omega, by omega⟩
            · exact ⟨3, by omega, by omega⟩
            · exact ⟨4, by omega, by omega⟩
          clear hx
          obtain ⟨f0, f1, f2, f3, f4⟩ := x
          simp only at hj
          subst hj
          have HOO := Lib.hid hO
          clear hO
          go_wp2_with fail
          refine (l5Good_eq HX.out _).mono ?_
          rintro e w2 ⟨rfl, hb2⟩
          have hO2 : Own w2 w.heap.size (ti (some ⟨w.heap.size, 0, none⟩) 5 5 L) := World.ownsRow.kept (row := none) HOO.out (grown_of_below hb2 _) (by right; rw [ownBlock_slice]; simp [blk])
          have hLl : L.length = 5 := (Own.rd hO2).len
          obtain ⟨y, hy⟩ : ∃ y, L[j]? = some y := ⟨_, List.getElem?_eq_getElem (by omega)⟩
          have hyb := (cnF_inv xs k (by have := HL.out; omega)).2 j y (by rw [← HLc.out]; exact hy)
          have hcell : w2.cell? ⟨w.heap.size, j, none⟩ = some (.int .i64 y) := by
            rw [World.ownsRow.cellAt hO2 j (by omega), I_get (by omega), hy]; rfl
          have hfz := World.ownsRow.frozenAt hO2 j
          have hs := World.ownsRow.stored hO2 j (.int .i64 (y + 1))
          rw [I_set] at hs
          have HS := Lib.hid hs
          have HU := Lib.hid (show L.set j (y + 1) = cnF (xs.take (k + 1)) by
            rw [cnF_at hxk.out, ← HLc.out, cnS]
            show _ = L.set ((j : Int) + 1 - 1).toNat (L[((j : Int) + 1 - 1).toNat]?.getD 0 + 1)
            have : ((j : Int) + 1 - 1).toNat = j := by omega
            rw [this, hy]; rfl)
          have HBel := Lib.hid (below_grown (below_next hB hb2) hs.2 (Nat.le_refl _))
          have hbl2 : b < w2.heap.size := Nat.lt_of_lt_of_le hbl hb2.size
          have hc0' : w2.cell? ⟨b, o + k * 5, none⟩ = some (.int .i64 ((j : Int) + 1)) := by rw [hb2.cell (p := ⟨b, o + k * 5, none⟩) hbl]; exact hc0
          have hsub : (j : Int) + 1 - 1 = (j : Int) := by omega
          have hyl : y ≤ 1048576 := by omega
          have hy0 : 0 ≤ y := hyb.1
          clear hs hO2 hLl hy hyb
          go_wp2
          go_roundw
          case rel => exact ⟨k + 1, by omega, by go_num, _, HS.out.1, HU.out, any_snocA HA.out hxk.out (by simp [HX.out]), HBel.out⟩
          case measure => simp [intOf]; omega
      · have HOO := Lib.hid hO
        clear hO
        go_wp2
        go_ret2
        have e1 := HA.out
        have e2 := HLc.out
        rw [List.take_of_length_le (by have := HL.out; omega)] at e1 e2
        have e0 : ccOk xs = true := by simp only [ccOk, e1, HL.out, h50]; rfl
        rw [e0, selL, if_pos rfl, cnF_len5]
        subst e2
        exact ⟨_, _, rfl, HOO.out, hB⟩
  · have h51 : (50 : Int) < (n : Int) := by omega
    have e0 := Lib.hid (show ccOk xs = false by simp only [ccOk, HL.out]; simp [h50])
    go_wp2_with (at_make; refine wpList_make_full _ rfl _ _ 36 rfl w.heap.size 3 i0 (.int .i64 0) 1 Try.underlying36 hi hz0 hz1 .i64 .i64 _ _ 5 rfl rfl (by first | rfl | omega) (by first | rfl | omega) (by rw [hz2]; omega) (by unfold maxLen; omega) (Nat.le_refl _) ?_; intro w1 hown hgrow; have hb1 : Below w.heap.size w w1 := (Below.refl _ _).grown hgrow (Nat.le_refl _) (by simp); clear hown hgrow hi hz0 hz1 hz2)
    go_ret2
    rw [e0.out]
    exact ⟨_, _, rfl, own_empty 1 (Box.new w1 _ _) hb1.size, below_next hb1 (below_alloc _ _)⟩
set_option maxHeartbeats 4000000 in
theorem i_CountCauses_any (A : Option Addr) (n c : Nat) (xs : List RTrap) (w : World) (hr : Rd w 5 A n (J cTrap xs)) (hn : n ≤ 1048576) :
    Calls Try.prog 43 #[.slice A n c] w fun e w' => ∃ A' c', e = .returned (.tuple #[.slice A' (selL (ccOk xs) (cnF xs)).length c', .bool (ccOk xs)]) ∧ Own w' w.heap.size (ti A' (selL (ccOk xs) (cnF xs)).length c' (selL (ccOk xs) (cnF xs))) ∧ Below w.heap.size w w' := by
  have HL := Lib.hid (hr.lenS posTrap cTrap_len)
  obtain ⟨i0, hi, hz0, hz1, hz2⟩ := info_parts Try.info3
  go_enter Try.func43, Try.ntmps43
  by_cases h50 : n ≤ 50
  · have h51 : ¬ (50 : Int) < (n : Int) := by omega
    go_wp2_with (at_make; refine wpList_make_full _ rfl _ _ 36 rfl w.heap.size 3 i0 (.int .i64 0) 1 Try.underlying36 hi hz0 hz1 .i64 .i64 _ _ 5 rfl rfl (by first | rfl | omega) (by first | rfl | omega) (by rw [hz2]; omega) (by unfold maxLen; omega) (Nat.le_refl _) ?_; intro w1 hown hgrow; have hown1 := info_int_made _ _ hown; have hb1 : Below w.heap.size w w1 := (Below.refl _ _).grown hgrow (Nat.le_refl _) (by simp); clear hown hgrow hi hz0 hz1 hz2)
    have HO1 := Lib.hid hown1
    clear hown1
    go_loopw [13] (fun i wr => ∃ k : Nat, k ≤ n ∧ i = .int .i64 k ∧ CcInv w xs k wr) (fun i _ => n - (intOf i).toNat)
    case atStart => exact ⟨0, Nat.zero_le _, rfl, _, HO1.out, rfl, rfl, hb1⟩
    case round =>
      obtain ⟨k, hk, rfl, L, hO, HLc, HA, hB⟩ := hrel
      by_cases hlt : k < n
      · obtain ⟨b, o, x, rfl, hbl, hxk, hc0, hc1, hc2, hc3, hc4⟩ := atTrap (hr.keep hB) hlt
        cases hx : tOk x
        all_goals have HX := Lib.hid hx
        · clear hx
          go_wp2_with fail
          refine (i_IsTrap_eq HX.out _).mono ?_
          rintro e w2 ⟨rfl, hb2⟩
          go_wp2
          go_ret2
          rw [ccOk_no hxk.out HX.out]
          exact ⟨_, _, rfl, own_nil _ _, below_next (below_next hB (below_alloc _ _)) hb2⟩
        · obtain ⟨j, hj, hj5⟩ : ∃ j : Nat, x.f0 = (j : Int) + 1 ∧ j < 5 := by
            rcases trapB_cause hx with h | h | h | h | h
            · exact ⟨0, by omega, by omega⟩
            · exact ⟨1, by omega, by omega⟩
            · exact ⟨2, by omega, by omega⟩
            · exact ⟨3, by omega, by omega⟩
            · exact ⟨4, by omega, by omega⟩
          clear hx
          obtain ⟨f0, f1, f2, f3, f4⟩ := x
          simp only at hj
          subst hj
          have HOO := Lib.hid hO
          clear hO
          go_wp2_with fail
          refine (i_IsTrap_eq HX.out _).mono ?_
          rintro e w2 ⟨rfl, hb2⟩
          have BX := (Box.new wr _ _).keep hb2
          have C2 := BX.cell
          have Z2 := BX.lt
          have hO2 : Own w2 w.heap.size (ti (some ⟨w.heap.size, 0, none⟩) 5 5 L) := World.ownsRow.kept (row := none) (World.ownsRow.alloc HOO.out _) (grown_of_below hb2 _) (by right; rw [ownBlock_slice]; simp [blk])
          have hLl : L.length = 5 := (Own.rd hO2).len
          obtain ⟨y, hy⟩ : ∃ y, L[j]? = some y := ⟨_, List.getElem?_eq_getElem (by omega)⟩
          have hyb := (cnF_inv xs k (by have := HL.out; omega)).2 j y (by rw [← HLc.out]; exact hy)
          have hcell : w2.cell? ⟨w.heap.size, j, none⟩ = some (.int .i64 y) := by
            rw [World.ownsRow.cellAt hO2 j (by omega), I_get (by omega), hy]; rfl
          have hfz := World.ownsRow.frozenAt hO2 j
          have hs := World.ownsRow.stored hO2 j (.int .i64 (y + 1))
          rw [I_set] at hs
          have HS := Lib.hid hs
          have HU := Lib.hid (show L.set j (y + 1) = cnF (xs.take (k + 1)) by
            rw [cnF_at hxk.out, ← HLc.out, cnS]
            show _ = L.set ((j : Int) + 1 - 1).toNat (L[((j : Int) + 1 - 1).toNat]?.getD 0 + 1)
            have : ((j : Int) + 1 - 1).toNat = j := by omega
            rw [this, hy]; rfl)
          have HBel := Lib.hid (below_grown (below_next (below_next hB (below_alloc _ _)) hb2) hs.2 (Nat.le_refl _))
          have hsub : (j : Int) + 1 - 1 = (j : Int) := by omega
          have hyl : y ≤ 1048576 := by omega
          have hy0 : 0 ≤ y := hyb.1
          clear hs hO2 hLl hy hyb BX
          go_wp2
          go_roundw
          case rel => exact ⟨k + 1, by omega, by go_num, _, HS.out.1, HU.out, any_snocA HA.out hxk.out (by simp [HX.out]), HBel.out⟩
          case measure => simp [intOf]; omega
      · have HOO := Lib.hid hO
        clear hO
        go_wp2
        go_ret2
        have e1 := HA.out
        have e2 := HLc.out
        rw [List.take_of_length_le (by have := HL.out; omega)] at e1 e2
        have e0 : ccOk xs = true := by simp only [ccOk, e1, HL.out, h50]; rfl
        rw [e0, selL, if_pos rfl, cnF_len5]
        subst e2
        exact ⟨_, _, rfl, HOO.out, hB⟩
  · have h51 : (50 : Int) < (n : Int) := by omega
    have e0 := Lib.hid (show ccOk xs = false by simp only [ccOk, HL.out]; simp [h50])
    go_wp2
    go_ret2
    rw [e0.out]
    exact ⟨_, _, rfl, own_nil _ _, Below.refl _ _⟩
end Go.Proofs.Ytcdocgmikpccoaa
