/- Contracts of the small functions on tables: szEntrySS, szTable, toEntrySS, toTable, eqEntrySS, eqTable, markEntrySS, markTable, heldEntrySS, heldTable. Lengths at most 2^20 where memory is made. -/
import Derived.Test.YtkgpdiajnjekcaaTs
import Derived.Test.YtkgpdiajnjekcaaMkEntry
import Derived.Deep.RegionWith
namespace Go.Proofs.Ytkgpdiajnjekcaa
open Go.RowKit
set_option linter.unusedVariables false
set_option linter.unusedSimpArgs false

/-- what is left of v behind n, or -1 -/
def lessBy (v : Int) (n : Nat) : Int := if (n : Int) ≤ v then v - (n : Int) else -1
theorem lessBy_le {v : Int} {n : Nat} (h : (n : Int) ≤ v) : lessBy v n = v - (n : Int) := if_pos h
theorem lessBy_no {v : Int} {n : Nat} (h : ¬ (n : Int) ≤ v) : lessBy v n = -1 := if_neg h
set_option maxHeartbeats 400000 in
theorem szIntS_eq (A : Option Addr) (n c : Nat) (v : Int) (w : World) (hn : n ≤ 9223372036854775807) (hv0 : 0 ≤ v) (hv1 : v ≤ 1048576) (r : Int) (hr : lessBy v n = r) :
    Calls Try.prog 78 #[.slice A n c, .int .i64 v] w fun e w' => e = .returned (.int .i64 r) ∧ w = w' := by
  have HR := Lib.hid hr
  clear hr
  by_cases h : (n : Int) ≤ v
  all_goals
    go_enter Try.func78, Try.ntmps78
    go_wp2
    go_ret
    exact ⟨ret_int (by have := HR.out; unfold lessBy at this; split at this <;> omega), rfl⟩
set_option maxHeartbeats 400000 in
theorem szEntryS_at (A : Option Addr) (n c : Nat) (v : Int) (w : World) (hn : n ≤ 9223372036854775807) (hv0 : 0 ≤ v) (hv1 : v ≤ 1048576) (r : Int) (hr : lessBy v n = r) :
    Calls Try.prog 111 #[.slice A n c, .int .i64 v] w fun e w' => e = .returned (.int .i64 r) ∧ w = w' := by
  have HR := Lib.hid hr
  clear hr
  by_cases h : (n : Int) ≤ v
  all_goals
    go_enter Try.func111, Try.ntmps111
    go_wp2
    go_ret
    exact ⟨ret_int (by have := HR.out; unfold lessBy at this; split at this <;> omega), rfl⟩
/-- what is left behind the leaves, or -1 -/
def lessLs (v : Int) : List Leaf → Int
  | [] => v
  | l :: ls => if lessBy v l.es.length < 0 then -1 else lessLs (lessBy v l.es.length) ls
theorem lessLs_snoc : ∀ (v : Int) (ls : List Leaf) (l : Leaf), -1 ≤ v → lessLs v (ls ++ [l]) = if lessLs v ls < 0 then lessLs v ls else lessBy (lessLs v ls) l.es.length
  | v, [], l, h => by
    show (if lessBy v l.es.length < 0 then -1 else lessBy v l.es.length) = if v < 0 then v else lessBy v l.es.length
    by_cases h1 : (l.es.length : Int) ≤ v
    · rw [lessBy_le h1, if_neg (by omega), if_neg (by omega)]
    · rw [lessBy_no h1, if_pos (by omega)]
      by_cases h2 : v < 0
      · rw [if_pos h2]; omega
      · rw [if_neg h2]
  | v, x :: ls, l, h => by
    simp only [List.cons_append, lessLs]
    split
    · rfl
    · exact lessLs_snoc _ ls l (by omega)
theorem lessBy_bd {v : Int} {n : Nat} (h1 : v ≤ 1048576) : lessBy v n ≤ 1048576 ∧ -1 ≤ lessBy v n := by unfold lessBy; split <;> omega
theorem lessLs_neg : ∀ (v : Int) (ls ms : List Leaf), -1 ≤ v → lessLs v ls < 0 → lessLs v (ls ++ ms) = lessLs v ls
  | v, ls, [], _, h => by simp
  | v, ls, m :: ms, hv, h => by
    have e : ls ++ m :: ms = (ls ++ [m]) ++ ms := by simp
    have h1 : lessLs v (ls ++ [m]) = lessLs v ls := by rw [lessLs_snoc _ _ _ hv, if_pos h]
    rw [e, lessLs_neg v (ls ++ [m]) ms hv (by rw [h1]; exact h), h1]
theorem lessLs_lo : ∀ {v : Int} {ls : List Leaf}, -1 ≤ v → -1 ≤ lessLs v ls
  | v, [], h => h
  | v, x :: ls, h => by
    simp only [lessLs]
    split
    · omega
    · exact lessLs_lo (by omega)
/-- what is left behind a table, or -1 -/
def lessT (v : Int) (T : Tab) : Int := if lessBy v T.D.length < 0 then -1 else if lessBy (lessBy v T.D.length) T.L.length < 0 then -1 else lessLs (lessBy (lessBy v T.D.length) T.L.length) T.L
theorem lessLs_ok : ∀ (v : Int) (ls : List Leaf), 0 ≤ lessLs v ls → v ≤ 1048576 → ∀ l ∈ ls, l.es.length ≤ 1048576
  | v, [], _, _, l, hl => by cases hl
  | v, x :: ls, h, hv, l, hl => by
    simp only [lessLs] at h
    split at h
    · omega
    · rename_i hx
      rcases List.mem_cons.1 hl with rfl | h1
      · unfold lessBy at hx; split at hx <;> omega
      · exact lessLs_ok _ ls h (lessBy_bd hv).1 l h1
theorem lessLs_sum : ∀ (v : Int) (ls : List Leaf), 0 ≤ lessLs v ls → 0 ≤ v → (((ls.map fun l => l.es.length).sum : Nat) : Int) ≤ v
  | v, [], _, h => by simpa using h
  | v, x :: ls, h, hv => by
    simp only [lessLs] at h
    split at h
    · omega
    · rename_i hx
      have := lessLs_sum _ ls h (by omega)
      unfold lessBy at hx this
      simp only [List.map_cons, List.sum_cons]
      split at hx
      · rw [if_pos ‹_›] at this; omega
      · omega
theorem lessT_ok {T : Tab} (h : 0 ≤ lessT 1048576 T) : T.D.length ≤ 1048576 ∧ T.L.length ≤ 1048576 ∧ (∀ l ∈ T.L, l.es.length ≤ 1048576) ∧ (T.L.map fun l => l.es.length).sum ≤ 1048576 := by
  unfold lessT at h
  split at h
  · omega
  · split at h
    · omega
    · rename_i h1 h2
      have h3 : T.D.length ≤ 1048576 := by unfold lessBy at h1; split at h1 <;> omega
      have h4 : lessBy 1048576 T.D.length ≤ 1048576 := (lessBy_bd (by omega)).1
      have h5 : (T.L.length : Int) ≤ lessBy 1048576 T.D.length := by
        have h2' := h2
        generalize lessBy 1048576 T.D.length = q at *
        unfold lessBy at h2'; split at h2' <;> omega
      have h6 : lessBy (lessBy 1048576 T.D.length) T.L.length ≤ 1048576 := (lessBy_bd h4).1
      refine ⟨h3, by omega, lessLs_ok _ _ h h6, ?_⟩
      have := lessLs_sum _ _ h (by omega)
      omega

set_option maxHeartbeats 1000000 in
theorem szEntrySS_eq (A : Option Addr) (c : Nat) (ls : List Leaf) (v : Int) (w : World) (hr : Rd w 1 A ls.length (ls.map Leaf.cell)) (hn : ls.length ≤ 9223372036854775807) (hl : ∀ l ∈ ls, l.es.length ≤ 9223372036854775807) (hv0 : 0 ≤ v) (hv1 : v ≤ 1048576) (r : Int) (hR : (if lessBy v ls.length < 0 then -1 else lessLs (lessBy v ls.length) ls) = r) :
    Calls Try.prog 79 #[.slice A ls.length c, .int .i64 v] w fun e w' => e = .returned (.int .i64 r) ∧ w = w' := by
  by_cases h : (ls.length : Int) ≤ v
  · have hq : ¬ v - (ls.length : Int) < 0 := by omega
    rw [lessBy_le h, if_neg hq] at hR
    have HR := Lib.hid hR
    have HL := Lib.hid hl
    clear hR hl
    go_enter Try.func79, Try.ntmps79
    go_wp2
    go_loop [1, 5] (fun a i => ∃ (k : Nat) (q : Int), k ≤ ls.length ∧ i = .int .i64 k ∧ a = .int .i64 q ∧ 0 ≤ q ∧ q ≤ 1048576 ∧ Hid (q = lessLs (v - (ls.length : Int)) (ls.take k))) (fun _ i => ls.length - (intOf i).toNat)
    case atStart => exact ⟨0, _, Nat.zero_le _, rfl, rfl, by omega, by omega, rfl⟩
    case round =>
      obtain ⟨k, q, hk, rfl, rfl, hq0, hq1, hq2⟩ := hrel
      by_cases hlt : k < ls.length
      · have hx : ls[k]? = some ls[k] := List.getElem?_eq_getElem hlt
        obtain ⟨b, o, rfl, hbl, hc⟩ := hr.cellAt (k := k) (u := Leaf.cell ls[k]) (by rw [List.getElem?_map, hx]; rfl)
        have hes := HL.out _ (List.getElem_mem hlt)
        unfold Leaf.cell at hc
        have hsn : lessLs (v - (ls.length : Int)) (ls.take (k + 1)) = lessBy q ls[k].es.length := by
          rw [List.take_add_one, hx]
          show lessLs _ (ls.take k ++ [ls[k]]) = _
          rw [lessLs_snoc _ _ _ (by omega), ← hq2.out, if_neg (by omega)]
        have HSN := Lib.hid hsn
        have HX := Lib.hid hx
        clear hsn hx
        by_cases hsm : (ls[k].es.length : Int) ≤ q
        · have h0 : ¬ q - (ls[k].es.length : Int) < 0 := by omega
          go_wp2_with fail
          refine (szEntryS_at _ _ _ q _ (by omega) hq0 hq1 _ (lessBy_le hsm)).mono ?_
          rintro e w1 ⟨rfl, rfl⟩
          go_wp2
          go_round
          case rel => exact ⟨k + 1, q - (ls[k].es.length : Int), by omega, by go_num, rfl, by omega, by omega, by rw [HSN.out, lessBy_le hsm]; exact rfl⟩
          case measure => simp [intOf]; omega
        · go_wp2_with fail
          refine (szEntryS_at _ _ _ q _ (by omega) hq0 hq1 (-1) (lessBy_no (Int.not_le.2 hsm))).mono ?_
          rintro e w1 ⟨rfl, rfl⟩
          go_wp2
          go_ret
          refine ⟨ret_int ?_, rfl⟩
          have e1 : lessLs (v - (ls.length : Int)) (ls.take (k + 1)) = -1 := by rw [HSN.out, lessBy_no (Int.not_le.2 hsm)]
          have e2 := lessLs_neg (v - (ls.length : Int)) (ls.take (k + 1)) (ls.drop (k + 1)) (by omega) (by rw [e1]; omega)
          rw [List.take_append_drop, e1] at e2
          rw [← HR.out, e2]
      · have hkn : k = ls.length := by omega
        go_wp2
        go_ret
        refine ⟨ret_int ?_, rfl⟩
        have := hq2.out
        rw [hkn, List.take_length] at this
        rw [this]; exact HR.out
  · have hq : v - (ls.length : Int) < 0 := by omega
    rw [lessBy_no h] at hR
    obtain rfl : (-1 : Int) = r := by rw [← hR]; rfl
    clear hR hl
    go_enter Try.func79, Try.ntmps79
    go_wp2
    go_ret
    exact ⟨rfl, rfl⟩

set_option maxHeartbeats 1000000 in
theorem szTable_eq (T : Tab) (w : World) (hr : RdT w T) (hd : T.D.length ≤ 9223372036854775807) (hn : T.L.length ≤ 9223372036854775807) (hl : ∀ l ∈ T.L, l.es.length ≤ 9223372036854775807) (r : Int) (hR : lessT 1048576 T = r) :
    Calls Try.prog 28 #[tabV T, .int .i64 1048576] w fun e w' => e = .returned (.int .i64 r) ∧ Below w.heap.size w w' := by
  have HL := Lib.hid hl
  unfold lessT at hR
  have HR := Lib.hid hR
  clear hl hR
  by_cases h1 : (T.D.length : Int) ≤ 1048576
  · have h1' : ¬ (1048576 : Int) - (T.D.length : Int) < 0 := by omega
    have hb1 : lessBy 1048576 T.D.length = 1048576 - (T.D.length : Int) := lessBy_le h1
    have HB1 := Lib.hid hb1
    clear hb1
    by_cases h2 : r < 0
    all_goals
      have HRR : Hid ((if lessBy (1048576 - (T.D.length : Int)) T.L.length < 0 then -1 else lessLs (lessBy (1048576 - (T.D.length : Int)) T.L.length) T.L) = r) := by
        have := HR.out
        rw [HB1.out, if_neg h1'] at this
        exact this
      go_enter Try.func28, Try.ntmps28
      go_wp2_with fail
      refine (szIntS_eq _ _ _ _ _ (by omega) (by omega) (by omega) _ HB1.out).mono ?_
      rintro e w1 ⟨rfl, rfl⟩
      go_wp2_with fail
      refine (szEntrySS_eq _ _ T.L _ _ (hr.r.keep (below_alloc _ _)) hn HL.out (by omega) (by omega) r HRR.out).mono ?_
      rintro e w1 ⟨rfl, rfl⟩
      go_wp2
      go_ret
    · refine ⟨ret_int ?_, below_alloc _ _⟩
      have h3 := HRR.out
      split at h3
      · exact h3
      · have := lessLs_lo (v := lessBy (1048576 - (T.D.length : Int)) T.L.length) (ls := T.L) (by omega)
        omega
    · exact ⟨rfl, below_alloc _ _⟩
  · have hb1 : lessBy 1048576 T.D.length = -1 := lessBy_no h1
    obtain rfl : (-1 : Int) = r := by have := HR.out; rw [hb1] at this; rw [← this]; rfl
    have HB1 := Lib.hid hb1
    clear hb1
    go_enter Try.func28, Try.ntmps28
    go_wp2_with fail
    refine (szIntS_eq _ _ _ _ _ (by omega) (by omega) (by omega) _ HB1.out).mono ?_
    rintro e w1 ⟨rfl, rfl⟩
    go_wp2
    go_ret
    exact ⟨rfl, below_alloc _ _⟩
end Go.Proofs.Ytkgpdiajnjekcaa
