/- Contracts of SetPending and EnableIrq in the program and in the reference. Lengths at most 2^20. -/
import Derived.Test.YtidohojjlinfmaaIrqA
namespace Go.Proofs.Ytidohojjlinfmaa
open Go.RowKit
set_option linter.unusedVariables false
set_option linter.unusedSimpArgs false

set_option maxHeartbeats 400000 in
theorem isIrq_eq {x : Int} {r : Bool} (h : inB x 0 7 = r) (w : World) :
    Calls Try.prog 34 #[.int .i64 x] w fun e w' => e = .returned (.bool r) ∧ w = w' := by
  have H := Lib.hid h
  clear h
  go_enter Try.func34, Try.ntmps34
  go_wp2_with fail
  refine (inside_eq H.out _).mono ?_
  rintro e w1 ⟨rfl, rfl⟩
  go_wp2
  go_ret
  exact ⟨rfl, rfl⟩

set_option maxHeartbeats 400000 in
theorem l6Irq_eq {x : Int} {r : Bool} (h : inB x 0 7 = r) (w : World) :
    Calls Try.prog 33 #[.int .i64 x] w fun e w' => e = .returned (.bool r) ∧ w = w' := by
  have H := Lib.hid h
  clear h
  go_enter Try.func33, Try.ntmps33
  go_wp2_with fail
  refine (l1In_eq H.out _).mono ?_
  rintro e w1 ⟨rfl, rfl⟩
  go_wp2
  go_ret
  exact ⟨rfl, rfl⟩


theorem cIrq_one (x : RIrq) : ∀ u ∈ cIrq x, u.oneCell' = true := by
  intro u hu
  simp [cIrq] at hu
  rcases hu with rfl | rfl | rfl | rfl | rfl <;> rfl
set_option maxHeartbeats 2000000 in
theorem l6With_any (A : Option Addr) (n c : Nat) (xs : List RIrq) (j : Nat) (x : RIrq) (w : World) (hr : Rd w 5 A n (J cIrq xs)) (hn : n ≤ 1048576) (hj : j < n) :
    Calls Try.prog 25 #[.slice A n c, .int .i64 j, vIrq x] w fun e w' => ∃ A' c', e = .returned (.slice A' n c') ∧ Own w' w.heap.size (tsIrq A' n c' (xs.set j x)) ∧ Below w.heap.size w w' := by
  have HL := Lib.hid (hr.lenS posIrq cIrq_len)
  obtain ⟨i0, hi, hz0, hz1, hz2⟩ := info_parts Try.info34
  have hx : ∃ x0, Hid (xs[j]? = some x0) := ⟨_, List.getElem?_eq_getElem (by have := HL.out; omega)⟩
  have B0 := Box.new w 34 #[.bool x.f0, .bool x.f1, .bool x.f2, .int .i64 x.f3, .int .i64 x.f4]
  have B1 := Box.new1 w (.cells #[.bool x.f0, .bool x.f1, .bool x.f2, .int .i64 x.f3, .int .i64 x.f4] 34) 34 #[]
  have B01 := B0.alloc (.cells #[] 34)
  have O1 : Own _ w.heap.size _ := own_empty 5 B1 (by simp)
  have hb0 := (below_alloc w (.cells #[.bool x.f0, .bool x.f1, .bool x.f2, .int .i64 x.f3, .int .i64 x.f4] 34)).alloc (by simp) (.cells #[] 34)
  go_enter Try.func25, Try.ntmps25
  go_wp2_with (at_builtin; refine wpList_app _ rfl _ _ 25 rfl w.heap.size 34 i0 (.agg #[.bool false, .bool false, .bool false, .int .i64 0, .int .i64 0]) 5 24 Try.underlying25 hi hz0 hz1 hz2 rfl (by decide) _ _ _ _ rfl O1 _ _ _ _ rfl (hr.keep hb0) (J_one cIrq_one xs) (by unfold maxLen; omega) (by omega) (by simp; omega) ?_; intro A' c' w1 hown hgrow hat; have C1 := (B01.grown hgrow (by simp [blk])).cell; have Bel := Lib.hid (hb0.grown hgrow (by simp; omega) (by simp [blk])); clear hgrow hat O1 B01 B1 B0 hb0; simp only [Nat.zero_add, List.nil_append] at hown; obtain ⟨g', rfl, hg1, hg2⟩ := own_someS hown (by omega); obtain ⟨x0, hx0⟩ := hx; have y0 : w1.cell? ⟨g', j * 5, none⟩ = _ := own_cellS (j := 0) cIrq_len hown hx0.out hj (by decide) rfl; have y1 : w1.cell? ⟨g', j * 5 + 1, none⟩ = _ := own_cellS (j := 1) cIrq_len hown hx0.out hj (by decide) rfl; have y2 : w1.cell? ⟨g', j * 5 + 2, none⟩ = _ := own_cellS (j := 2) cIrq_len hown hx0.out hj (by decide) rfl; have y3 : w1.cell? ⟨g', j * 5 + 3, none⟩ = _ := own_cellS (j := 3) cIrq_len hown hx0.out hj (by decide) rfl; have y4 : w1.cell? ⟨g', j * 5 + 4, none⟩ = _ := own_cellS (j := 4) cIrq_len hown hx0.out hj (by decide) rfl; have hfz : ∀ q, w1.frozen? ⟨g', q, none⟩ = false := fun q => World.ownsRow.frozenAt hown q; have HO := Lib.hid hown; clear hown)
  go_ret
  have P2 := own_putAll (cIrq x) w1 (J cIrq xs) (j * 5) HO.out
  rw [J_set cIrq_len _ j (by have := HL.out; omega) x] at P2
  exact ⟨_, _, rfl, P2.1, putAll_below (cIrq x) (p := j * 5) Bel.out (by omega)⟩
/-- a list, or none -/
def selR {α : Type} (b : Bool) (l : List α) : List α := if b then l else []
theorem ownR_nil (w : World) (B : Nat) : Own w B (tsIrq none 0 0 []) := World.ownsRow_nil _ _ _ _
def okP (xs : List RIrq) (irq : Int) : Bool := irqB xs && inB irq 0 7
theorem irqB_len {xs : List RIrq} (h : irqB xs = true) : xs.length = 8 := by simp [irqB] at h; exact h.1
set_option maxHeartbeats 400000 in
theorem l6Asked_eq (A : Option Addr) (n c : Nat) (xs : List RIrq) (irq : Int) (w : World) (hr : Rd w 5 A n (J cIrq xs)) (hn : n ≤ 1048576) (r : Bool) (hR : okP xs irq = r) :
    Calls Try.prog 24 #[.slice A n c, .int .i64 irq] w fun e w' => e = .returned (.bool r) ∧ Below w.heap.size w w' := by
  unfold okP at hR
  cases h1 : irqB xs
  all_goals have H1 := Lib.hid h1
  all_goals rw [h1] at hR
  all_goals clear h1
  · obtain rfl : false = r := by rw [← hR]; rfl
    clear hR
    go_enter Try.func24, Try.ntmps24
    go_wp2_with fail
    refine (l6Good_eq _ _ _ xs _ hr (by omega) _ H1.out).mono ?_
    rintro e w1 ⟨rfl, hb⟩
    go_wp2
    go_ret
    exact ⟨rfl, hb⟩
  · simp only [Bool.true_and] at hR
    have HR := Lib.hid hR
    clear hR
    go_enter Try.func24, Try.ntmps24
    go_wp2_with fail
    refine (l6Good_eq _ _ _ xs _ hr (by omega) _ H1.out).mono ?_
    rintro e w1 ⟨rfl, hb⟩
    go_wp2_with fail
    refine (l6Irq_eq HR.out _).mono ?_
    rintro e w2 ⟨rfl, rfl⟩
    go_wp2
    go_ret
    exact ⟨rfl, hb⟩


def setSetPending (xs : List RIrq) (irq : Int) (v : Bool) : List RIrq := match xs[irq.toNat]? with
  | some x => xs.set irq.toNat { x with f1 := v }
  | none => xs
theorem setSetPending_len (xs : List RIrq) (irq : Int) (v : Bool) : (setSetPending xs irq v).length = xs.length := by unfold setSetPending; split <;> simp
theorem setSetPending_at {xs : List RIrq} {j : Nat} {x : RIrq} (h : xs[j]? = some x) (v : Bool) : setSetPending xs (j : Int) v = xs.set j { x with f1 := v } := by unfold setSetPending; simp [h]
theorem setSetPending_ok {xs : List RIrq} {j : Nat} {x : RIrq} (h : xs[j]? = some x) (v : Bool) (hx : irqB xs = true) : irqB (xs.set j { x with f1 := v }) = true := by
  simp only [irqB, Bool.and_eq_true, decide_eq_true_eq, List.length_set, Bool.not_eq_true', List.any_eq_false] at hx ⊢
  refine ⟨hx.1, fun y hy => ?_⟩
  rcases List.mem_or_eq_of_mem_set hy with h1 | rfl
  · exact hx.2 y h1
  · exact hx.2 x (List.mem_of_getElem? h)

set_option maxHeartbeats 2000000 in
theorem s_SetPending_any (A : Option Addr) (n c : Nat) (xs : List RIrq) (irq : Int) (v : Bool) (w : World) (hr : Rd w 5 A n (J cIrq xs)) (hn : n ≤ 1048576) :
    Calls Try.prog 15 #[.slice A n c, .int .i64 irq, .bool v] w fun e w' => ∃ A' c', e = .returned (.tuple #[.slice A' (selR (okP xs irq) (setSetPending xs irq v)).length c', .bool (okP xs irq)]) ∧ Own w' w.heap.size (tsIrq A' (selR (okP xs irq) (setSetPending xs irq v)).length c' (selR (okP xs irq) (setSetPending xs irq v))) ∧ Below w.heap.size w w' := by
  have HL := Lib.hid (hr.lenS posIrq cIrq_len)
  cases h0 : okP xs irq
  all_goals have H0 := Lib.hid h0
  · clear h0
    go_enter Try.func15, Try.ntmps15
    go_wp2_with fail
    refine (l6Asked_eq _ _ _ xs irq _ hr hn _ H0.out).mono ?_
    rintro e w1 ⟨rfl, hb⟩
    go_wp2
    go_ret2
    exact ⟨_, _, rfl, own_empty 5 (Box.new w1 _ _) hb.size, below_next hb (below_alloc _ _)⟩
  · simp only [okP, Bool.and_eq_true] at h0
    have h8 := irqB_len h0.1
    obtain ⟨hi0, hi7⟩ := inB_iff.1 h0.2
    obtain ⟨j, rfl⟩ := Int.eq_ofNat_of_zero_le hi0
    have hj : j < n := by have := HL.out; omega
    clear h0 h8 hi7
    go_enter Try.func15, Try.ntmps15
    go_wp2_with fail
    refine (l6Asked_eq _ _ _ xs _ _ hr hn _ H0.out).mono ?_
    rintro e w1 ⟨rfl, hb⟩
    have hr1 := hr.keep hb
    obtain ⟨b, o, x, rfl, hbl, hxk, hc0, hc1, hc2, hc3, hc4⟩ := atIrq hr1 hj
    have Hr1 := Lib.hid hr1
    clear hr1 hi0
    go_wp2_with fail
    refine (l6With_any _ _ _ xs j { x with f1 := v } _ (Hr1.out.keep (below_alloc _ _)) hn hj).mono ?_
    rintro e w2 ⟨A2, c2, rfl, ho2, hb2⟩
    have HO := Lib.hid ho2
    clear ho2
    go_wp2
    go_ret2
    have e1 : (selR true (setSetPending xs (j : Int) v)) = xs.set j { x with f1 := v } := by rw [selR, if_pos rfl, setSetPending_at hxk.out]
    have e2 : (xs.set j { x with f1 := v }).length = n := by rw [List.length_set]; exact HL.out
    rw [e1, e2]
    exact ⟨_, _, rfl, own_less HO.out (by have := hb.size; simp; omega), below_next (below_next hb (below_alloc _ _)) hb2⟩


def setEnableIrq (xs : List RIrq) (irq : Int) (v : Bool) : List RIrq := match xs[irq.toNat]? with
  | some x => xs.set irq.toNat { x with f0 := v }
  | none => xs
theorem setEnableIrq_len (xs : List RIrq) (irq : Int) (v : Bool) : (setEnableIrq xs irq v).length = xs.length := by unfold setEnableIrq; split <;> simp
theorem setEnableIrq_at {xs : List RIrq} {j : Nat} {x : RIrq} (h : xs[j]? = some x) (v : Bool) : setEnableIrq xs (j : Int) v = xs.set j { x with f0 := v } := by unfold setEnableIrq; simp [h]
theorem setEnableIrq_ok {xs : List RIrq} {j : Nat} {x : RIrq} (h : xs[j]? = some x) (v : Bool) (hx : irqB xs = true) : irqB (xs.set j { x with f0 := v }) = true := by
  simp only [irqB, Bool.and_eq_true, decide_eq_true_eq, List.length_set, Bool.not_eq_true', List.any_eq_false] at hx ⊢
  refine ⟨hx.1, fun y hy => ?_⟩
  rcases List.mem_or_eq_of_mem_set hy with h1 | rfl
  · exact hx.2 y h1
  · exact hx.2 x (List.mem_of_getElem? h)

set_option maxHeartbeats 2000000 in
theorem s_EnableIrq_any (A : Option Addr) (n c : Nat) (xs : List RIrq) (irq : Int) (v : Bool) (w : World) (hr : Rd w 5 A n (J cIrq xs)) (hn : n ≤ 1048576) :
    Calls Try.prog 11 #[.slice A n c, .int .i64 irq, .bool v] w fun e w' => ∃ A' c', e = .returned (.tuple #[.slice A' (selR (okP xs irq) (setEnableIrq xs irq v)).length c', .bool (okP xs irq)]) ∧ Own w' w.heap.size (tsIrq A' (selR (okP xs irq) (setEnableIrq xs irq v)).length c' (selR (okP xs irq) (setEnableIrq xs irq v))) ∧ Below w.heap.size w w' := by
  have HL := Lib.hid (hr.lenS posIrq cIrq_len)
  cases h0 : okP xs irq
  all_goals have H0 := Lib.hid h0
  · clear h0
    go_enter Try.func11, Try.ntmps11
    go_wp2_with fail
    refine (l6Asked_eq _ _ _ xs irq _ hr hn _ H0.out).mono ?_
    rintro e w1 ⟨rfl, hb⟩
    go_wp2
    go_ret2
    exact ⟨_, _, rfl, own_empty 5 (Box.new w1 _ _) hb.size, below_next hb (below_alloc _ _)⟩
  · simp only [okP, Bool.and_eq_true] at h0
    have h8 := irqB_len h0.1
    obtain ⟨hi0, hi7⟩ := inB_iff.1 h0.2
    obtain ⟨j, rfl⟩ := Int.eq_ofNat_of_zero_le hi0
    have hj : j < n := by have := HL.out; omega
    clear h0 h8 hi7
    go_enter Try.func11, Try.ntmps11
    go_wp2_with fail
    refine (l6Asked_eq _ _ _ xs _ _ hr hn _ H0.out).mono ?_
    rintro e w1 ⟨rfl, hb⟩
    have hr1 := hr.keep hb
    obtain ⟨b, o, x, rfl, hbl, hxk, hc0, hc1, hc2, hc3, hc4⟩ := atIrq hr1 hj
    have Hr1 := Lib.hid hr1
    clear hr1 hi0
    go_wp2_with fail
    refine (l6With_any _ _ _ xs j { x with f0 := v } _ (Hr1.out.keep (below_alloc _ _)) hn hj).mono ?_
    rintro e w2 ⟨A2, c2, rfl, ho2, hb2⟩
    have HO := Lib.hid ho2
    clear ho2
    go_wp2
    go_ret2
    have e1 : (selR true (setEnableIrq xs (j : Int) v)) = xs.set j { x with f0 := v } := by rw [selR, if_pos rfl, setEnableIrq_at hxk.out]
    have e2 : (xs.set j { x with f0 := v }).length = n := by rw [List.length_set]; exact HL.out
    rw [e1, e2]
    exact ⟨_, _, rfl, own_less HO.out (by have := hb.size; simp; omega), below_next (below_next hb (below_alloc _ _)) hb2⟩


set_option maxHeartbeats 1000000 in
theorem changeSetPending_any (g2 p g : Nat) (v : Bool) (w : World) (hc : ∀ i, w.cell? ⟨g, i, none⟩ = #[Value.bool v][i]?) (h2 : ∃ u, w.cell? ⟨g2, p + 1, none⟩ = some u) (h3 : ∀ q, w.frozen? ⟨g2, q, none⟩ = false) :
    Calls Try.prog 28 #[.pointer (some ⟨g2, p, none⟩), .pointer (some ⟨g, 0, none⟩)] w fun e w' => e = .returned (.tuple #[]) ∧ w' = w.setCell ⟨g2, p + 1, none⟩ (.bool v) := by
  obtain ⟨u, h2⟩ := h2
  go_enter Try.func28, Try.ntmps28
  go_wp2
  go_end0
  exact ⟨rfl, rfl⟩

set_option maxHeartbeats 4000000 in
theorem withSetPending_no (A : Option Addr) (n c : Nat) (xs : List RIrq) (irq : Int) (f : Value) (w : World) (hr : Rd w 5 A n (J cIrq xs)) (hn : n ≤ 1048576) (h0 : okP xs irq = false) :
    Calls Try.prog 26 #[.slice A n c, .int .i64 irq, f] w fun e w' => e = .returned (.tuple #[.slice none 0 0, .bool false]) ∧ Below w.heap.size w w' := by
  unfold okP at h0
  cases h1 : irqB xs
  all_goals have H1 := Lib.hid h1
  all_goals rw [h1] at h0
  all_goals clear h1
  · clear h0
    go_enter Try.func26, Try.ntmps26
    go_wp2_with fail
    refine (i_AreIrqs_eq _ _ _ xs _ hr (by omega) _ H1.out).mono ?_
    rintro e w1 ⟨rfl, hb⟩
    go_wp2
    go_ret2
    exact ⟨rfl, hb⟩
  · simp only [Bool.true_and] at h0
    have H0 := Lib.hid h0
    clear h0
    go_enter Try.func26, Try.ntmps26
    go_wp2_with fail
    refine (i_AreIrqs_eq _ _ _ xs _ hr (by omega) _ H1.out).mono ?_
    rintro e w1 ⟨rfl, hb⟩
    go_wp2_with fail
    refine (isIrq_eq H0.out _).mono ?_
    rintro e w2 ⟨rfl, rfl⟩
    go_wp2
    go_ret2
    exact ⟨rfl, hb⟩

set_option maxHeartbeats 4000000 in
theorem withSetPending_ok (A : Option Addr) (n c : Nat) (xs : List RIrq) (j : Nat) (x : RIrq) (g : Nat) (v : Bool) (w : World) (hr : Rd w 5 A n (J cIrq xs)) (hn : n ≤ 1048576) (h0 : okP xs (j : Int) = true) (hx : Hid (xs[j]? = some x)) (hg : Box w g 4 #[.bool v]) :
    Calls Try.prog 26 #[.slice A n c, .int .i64 j, .func (.func 28) #[] #[.pointer (some ⟨g, 0, none⟩)]] w fun e w' => ∃ A' c', e = .returned (.tuple #[.slice A' n c', .bool true]) ∧ Own w' w.heap.size (tsIrq A' n c' (xs.set j { x with f1 := v })) ∧ Below w.heap.size w w' := by
  have HL := Lib.hid (hr.lenS posIrq cIrq_len)
  simp only [okP, Bool.and_eq_true] at h0
  have H1 := Lib.hid h0.1
  have H2 := Lib.hid h0.2
  have H3 := Lib.hid (setSetPending_ok hx.out v h0.1)
  have hj : j < n := by
    have := irqB_len h0.1
    have := inB_iff.1 h0.2
    have := HL.out
    omega
  clear h0
  obtain ⟨i0, hi, hz0, hz1, hz2⟩ := info_parts Try.info34
  go_enter Try.func26, Try.ntmps26
  go_wp2_with fail
  refine (i_AreIrqs_eq _ _ _ xs _ hr (by omega) _ H1.out).mono ?_
  rintro e w1 ⟨rfl, hb⟩
  go_wp2_with fail
  refine (isIrq_eq H2.out _).mono ?_
  rintro e w2 ⟨rfl, rfl⟩
  have O1 : Own _ w.heap.size _ := own_empty 5 (Box.new w1 34 #[]) hb.size
  have B0 := (hg.keep hb).alloc (.cells #[] 34)
  have hb0 := below_next hb (below_alloc w1 (.cells #[] 34))
  have hgl : g < w1.heap.size := (hg.keep hb).lt
  have hsz := hb.size
  go_wp2_with (at_builtin; refine wpList_app _ rfl _ _ 25 rfl w.heap.size 34 i0 (.agg #[.bool false, .bool false, .bool false, .int .i64 0, .int .i64 0]) 5 24 Try.underlying25 hi hz0 hz1 hz2 rfl (by decide) _ _ _ _ rfl O1 _ _ _ _ rfl (hr.keep hb0) (J_one cIrq_one xs) (by unfold maxLen; omega) (by omega) (by simp; omega) ?_; intro A' c' w2 hown hgrow hat; have C1 := (B0.grown hgrow (by simp [blk]; omega)).cell; have Bel := Lib.hid (hb0.grown hgrow hb0.size (by simp [blk]; omega)); clear hgrow hat O1 B0 hb0; simp only [Nat.zero_add, List.nil_append] at hown; obtain ⟨g', rfl, hg1, hg2⟩ := own_someS hown (by omega); have hfz : ∀ q, w2.frozen? ⟨g', q, none⟩ = false := fun q => World.ownsRow.frozenAt hown q; have HO := Lib.hid hown; clear hown)
  refine (changeSetPending_any g' (j * 5) g v _ C1 ⟨_, own_cellS (j := 1) cIrq_len HO.out hx.out hj (by decide) rfl⟩ hfz).mono ?_
  rintro e w3 ⟨rfl, rfl⟩
  have hs := World.ownsRow.stored HO.out (j * 5 + 1) (.bool v)
  rw [J_set1 cIrq_len xs j 1 (by have := HL.out; omega) (by decide) (.bool v) { x with f1 := v } (fun y hy => by rw [hx.out] at hy; cases hy; rfl)] at hs
  have HS := Lib.hid hs
  have HBel := Lib.hid (below_grown Bel.out hs.2 (by omega))
  clear hs C1 hfz
  go_wp2_with fail
  refine (i_AreIrqs_eq _ _ _ _ _ (Own.rd (t := tsIrq (some ⟨g', 0, none⟩) n c' (xs.set j { x with f1 := v })) HS.out.1) (show n ≤ 4503599627370496 by omega) _ H3.out).mono ?_
  rintro e w4 ⟨rfl, hb4⟩
  have hO4 : Own w4 w.heap.size (tsIrq (some ⟨g', 0, none⟩) n c' (xs.set j { x with f1 := v })) := World.ownsRow.kept (row := none) HS.out.1 (grown_of_below hb4 _) (by right; rw [ownBlock_slice]; simp [blk])
  have HO4 := Lib.hid hO4
  clear hO4
  go_wp2
  go_ret2
  exact ⟨_, _, rfl, HO4.out, below_next HBel.out hb4⟩

set_option maxHeartbeats 2000000 in
theorem i_SetPending_any (A : Option Addr) (n c : Nat) (xs : List RIrq) (irq : Int) (v : Bool) (w : World) (hr : Rd w 5 A n (J cIrq xs)) (hn : n ≤ 1048576) :
    Calls Try.prog 16 #[.slice A n c, .int .i64 irq, .bool v] w fun e w' => ∃ A' c', e = .returned (.tuple #[.slice A' (selR (okP xs irq) (setSetPending xs irq v)).length c', .bool (okP xs irq)]) ∧ Own w' w.heap.size (tsIrq A' (selR (okP xs irq) (setSetPending xs irq v)).length c' (selR (okP xs irq) (setSetPending xs irq v))) ∧ Below w.heap.size w w' := by
  have HL := Lib.hid (hr.lenS posIrq cIrq_len)
  cases h0 : okP xs irq
  all_goals have H0 := Lib.hid h0
  · clear h0
    go_enter Try.func16, Try.ntmps16
    go_wp2_with fail
    refine (withSetPending_no _ _ _ xs irq _ _ (hr.keep (below_alloc _ _)) hn H0.out).mono ?_
    rintro e w1 ⟨rfl, hb⟩
    go_wp2
    go_ret2
    exact ⟨_, _, rfl, ownR_nil _ _, below_next (below_alloc _ _) hb⟩
  · simp only [okP, Bool.and_eq_true] at h0
    have h8 := irqB_len h0.1
    obtain ⟨hi0, hi7⟩ := inB_iff.1 h0.2
    obtain ⟨j, rfl⟩ := Int.eq_ofNat_of_zero_le hi0
    obtain ⟨x, hx⟩ : ∃ x, Hid (xs[j]? = some x) := ⟨_, List.getElem?_eq_getElem (by omega)⟩
    clear h0 h8 hi7 hi0
    go_enter Try.func16, Try.ntmps16
    go_wp2_with fail
    refine (withSetPending_ok _ _ _ xs j x _ v _ (hr.keep (below_alloc _ _)) hn H0.out hx (Box.new _ _ _)).mono ?_
    rintro e w1 ⟨A2, c2, rfl, ho2, hb⟩
    have HO := Lib.hid ho2
    clear ho2
    go_wp2
    go_ret2
    have e1 : (selR true (setSetPending xs (j : Int) v)) = xs.set j { x with f1 := v } := by rw [selR, if_pos rfl, setSetPending_at hx.out]
    have e2 : (xs.set j { x with f1 := v }).length = n := by rw [List.length_set]; exact HL.out
    rw [e1, e2]
    exact ⟨_, _, rfl, own_less HO.out (by simp), below_next (below_alloc _ _) hb⟩


set_option maxHeartbeats 1000000 in
theorem changeEnableIrq_any (g2 p g : Nat) (v : Bool) (w : World) (hc : ∀ i, w.cell? ⟨g, i, none⟩ = #[Value.bool v][i]?) (h2 : ∃ u, w.cell? ⟨g2, p, none⟩ = some u) (h3 : ∀ q, w.frozen? ⟨g2, q, none⟩ = false) :
    Calls Try.prog 27 #[.pointer (some ⟨g2, p, none⟩), .pointer (some ⟨g, 0, none⟩)] w fun e w' => e = .returned (.tuple #[]) ∧ w' = w.setCell ⟨g2, p, none⟩ (.bool v) := by
  obtain ⟨u, h2⟩ := h2
  go_enter Try.func27, Try.ntmps27
  go_wp2
  go_end0
  exact ⟨rfl, rfl⟩

set_option maxHeartbeats 4000000 in
theorem withEnableIrq_no (A : Option Addr) (n c : Nat) (xs : List RIrq) (irq : Int) (f : Value) (w : World) (hr : Rd w 5 A n (J cIrq xs)) (hn : n ≤ 1048576) (h0 : okP xs irq = false) :
    Calls Try.prog 26 #[.slice A n c, .int .i64 irq, f] w fun e w' => e = .returned (.tuple #[.slice none 0 0, .bool false]) ∧ Below w.heap.size w w' := by
  unfold okP at h0
  cases h1 : irqB xs
  all_goals have H1 := Lib.hid h1
  all_goals rw [h1] at h0
  all_goals clear h1
  · clear h0
    go_enter Try.func26, Try.ntmps26
    go_wp2_with fail
    refine (i_AreIrqs_eq _ _ _ xs _ hr (by omega) _ H1.out).mono ?_
    rintro e w1 ⟨rfl, hb⟩
    go_wp2
    go_ret2
    exact ⟨rfl, hb⟩
  · simp only [Bool.true_and] at h0
    have H0 := Lib.hid h0
    clear h0
    go_enter Try.func26, Try.ntmps26
    go_wp2_with fail
    refine (i_AreIrqs_eq _ _ _ xs _ hr (by omega) _ H1.out).mono ?_
    rintro e w1 ⟨rfl, hb⟩
    go_wp2_with fail
    refine (isIrq_eq H0.out _).mono ?_
    rintro e w2 ⟨rfl, rfl⟩
    go_wp2
    go_ret2
    exact ⟨rfl, hb⟩

set_option maxHeartbeats 4000000 in
theorem withEnableIrq_ok (A : Option Addr) (n c : Nat) (xs : List RIrq) (j : Nat) (x : RIrq) (g : Nat) (v : Bool) (w : World) (hr : Rd w 5 A n (J cIrq xs)) (hn : n ≤ 1048576) (h0 : okP xs (j : Int) = true) (hx : Hid (xs[j]? = some x)) (hg : Box w g 4 #[.bool v]) :
    Calls Try.prog 26 #[.slice A n c, .int .i64 j, .func (.func 27) #[] #[.pointer (some ⟨g, 0, none⟩)]] w fun e w' => ∃ A' c', e = .returned (.tuple #[.slice A' n c', .bool true]) ∧ Own w' w.heap.size (tsIrq A' n c' (xs.set j { x with f0 := v })) ∧ Below w.heap.size w w' := by
  have HL := Lib.hid (hr.lenS posIrq cIrq_len)
  simp only [okP, Bool.and_eq_true] at h0
  have H1 := Lib.hid h0.1
  have H2 := Lib.hid h0.2
  have H3 := Lib.hid (setEnableIrq_ok hx.out v h0.1)
  have hj : j < n := by
    have := irqB_len h0.1
    have := inB_iff.1 h0.2
    have := HL.out
    omega
  clear h0
  obtain ⟨i0, hi, hz0, hz1, hz2⟩ := info_parts Try.info34
  go_enter Try.func26, Try.ntmps26
  go_wp2_with fail
  refine (i_AreIrqs_eq _ _ _ xs _ hr (by omega) _ H1.out).mono ?_
  rintro e w1 ⟨rfl, hb⟩
  go_wp2_with fail
  refine (isIrq_eq H2.out _).mono ?_
  rintro e w2 ⟨rfl, rfl⟩
  have O1 : Own _ w.heap.size _ := own_empty 5 (Box.new w1 34 #[]) hb.size
  have B0 := (hg.keep hb).alloc (.cells #[] 34)
  have hb0 := below_next hb (below_alloc w1 (.cells #[] 34))
  have hgl : g < w1.heap.size := (hg.keep hb).lt
  have hsz := hb.size
  go_wp2_with (at_builtin; refine wpList_app _ rfl _ _ 25 rfl w.heap.size 34 i0 (.agg #[.bool false, .bool false, .bool false, .int .i64 0, .int .i64 0]) 5 24 Try.underlying25 hi hz0 hz1 hz2 rfl (by decide) _ _ _ _ rfl O1 _ _ _ _ rfl (hr.keep hb0) (J_one cIrq_one xs) (by unfold maxLen; omega) (by omega) (by simp; omega) ?_; intro A' c' w2 hown hgrow hat; have C1 := (B0.grown hgrow (by simp [blk]; omega)).cell; have Bel := Lib.hid (hb0.grown hgrow hb0.size (by simp [blk]; omega)); clear hgrow hat O1 B0 hb0; simp only [Nat.zero_add, List.nil_append] at hown; obtain ⟨g', rfl, hg1, hg2⟩ := own_someS hown (by omega); have hfz : ∀ q, w2.frozen? ⟨g', q, none⟩ = false := fun q => World.ownsRow.frozenAt hown q; have HO := Lib.hid hown; clear hown)
  refine (changeEnableIrq_any g' (j * 5) g v _ C1 ⟨_, own_cellS (j := 0) cIrq_len HO.out hx.out hj (by decide) rfl⟩ hfz).mono ?_
  rintro e w3 ⟨rfl, rfl⟩
  have hs := World.ownsRow.stored HO.out (j * 5 + 0) (.bool v)
  rw [J_set1 cIrq_len xs j 0 (by have := HL.out; omega) (by decide) (.bool v) { x with f0 := v } (fun y hy => by rw [hx.out] at hy; cases hy; rfl)] at hs
  have HS := Lib.hid hs
  have HBel := Lib.hid (below_grown Bel.out hs.2 (by omega))
  clear hs C1 hfz
  go_wp2_with fail
  refine (i_AreIrqs_eq _ _ _ _ _ (Own.rd (t := tsIrq (some ⟨g', 0, none⟩) n c' (xs.set j { x with f0 := v })) HS.out.1) (show n ≤ 4503599627370496 by omega) _ H3.out).mono ?_
  rintro e w4 ⟨rfl, hb4⟩
  have hO4 : Own w4 w.heap.size (tsIrq (some ⟨g', 0, none⟩) n c' (xs.set j { x with f0 := v })) := World.ownsRow.kept (row := none) HS.out.1 (grown_of_below hb4 _) (by right; rw [ownBlock_slice]; simp [blk])
  have HO4 := Lib.hid hO4
  clear hO4
  go_wp2
  go_ret2
  exact ⟨_, _, rfl, HO4.out, below_next HBel.out hb4⟩

set_option maxHeartbeats 2000000 in
theorem i_EnableIrq_any (A : Option Addr) (n c : Nat) (xs : List RIrq) (irq : Int) (v : Bool) (w : World) (hr : Rd w 5 A n (J cIrq xs)) (hn : n ≤ 1048576) :
    Calls Try.prog 12 #[.slice A n c, .int .i64 irq, .bool v] w fun e w' => ∃ A' c', e = .returned (.tuple #[.slice A' (selR (okP xs irq) (setEnableIrq xs irq v)).length c', .bool (okP xs irq)]) ∧ Own w' w.heap.size (tsIrq A' (selR (okP xs irq) (setEnableIrq xs irq v)).length c' (selR (okP xs irq) (setEnableIrq xs irq v))) ∧ Below w.heap.size w w' := by
  have HL := Lib.hid (hr.lenS posIrq cIrq_len)
  cases h0 : okP xs irq
  all_goals have H0 := Lib.hid h0
  · clear h0
    go_enter Try.func12, Try.ntmps12
    go_wp2_with fail
    refine (withEnableIrq_no _ _ _ xs irq _ _ (hr.keep (below_alloc _ _)) hn H0.out).mono ?_
    rintro e w1 ⟨rfl, hb⟩
    go_wp2
    go_ret2
    exact ⟨_, _, rfl, ownR_nil _ _, below_next (below_alloc _ _) hb⟩
  · simp only [okP, Bool.and_eq_true] at h0
    have h8 := irqB_len h0.1
    obtain ⟨hi0, hi7⟩ := inB_iff.1 h0.2
    obtain ⟨j, rfl⟩ := Int.eq_ofNat_of_zero_le hi0
    obtain ⟨x, hx⟩ : ∃ x, Hid (xs[j]? = some x) := ⟨_, List.getElem?_eq_getElem (by omega)⟩
    clear h0 h8 hi7 hi0
    go_enter Try.func12, Try.ntmps12
    go_wp2_with fail
    refine (withEnableIrq_ok _ _ _ xs j x _ v _ (hr.keep (below_alloc _ _)) hn H0.out hx (Box.new _ _ _)).mono ?_
    rintro e w1 ⟨A2, c2, rfl, ho2, hb⟩
    have HO := Lib.hid ho2
    clear ho2
    go_wp2
    go_ret2
    have e1 : (selR true (setEnableIrq xs (j : Int) v)) = xs.set j { x with f0 := v } := by rw [selR, if_pos rfl, setEnableIrq_at hx.out]
    have e2 : (xs.set j { x with f0 := v }).length = n := by rw [List.length_set]; exact HL.out
    rw [e1, e2]
    exact ⟨_, _, rfl, own_less HO.out (by simp), below_next (below_alloc _ _) hb⟩

end Go.Proofs.Ytidohojjlinfmaa
