/- Contracts of what is drawn for the law of traps' values: DrawStoredValue, DrawLoadValue. The code of at most 65536 bytes. -/
import Derived.Test.YtcdocgmikpccoaaDx
import Derived.Deep.RegionHeld3
namespace Go.Proofs.Ytcdocgmikpccoaa
open Go.RowKit
set_option linter.unusedVariables false
set_option linter.unusedSimpArgs false
attribute [local go_sem ↓] Go.wp_at_zero Go.wp_at_succ

theorem kcellY {w w' : World} {b o : Nat} {v : Value} (h : Below w.heap.size w w') (hb : b < w.heap.size) (hc : w.cell? ⟨b, o, none⟩ = some v) : w'.cell? ⟨b, o, none⟩ = some v := (h.cell (p := ⟨b, o, none⟩) hb).trans hc
theorem kallocY {w : World} {b o : Nat} {v : Value} {ob : Obj} (hc : w.cell? ⟨b, o, none⟩ = some v) : (w.alloc ob).cell? ⟨b, o, none⟩ = some v :=
  kcellY (below_alloc w ob) (by have := World.block_lt_of_cell? _ _ hc; exact this) hc
theorem kdrewY {w : World} {b o : Nat} {v : Value} (hc : w.cell? ⟨b, o, none⟩ = some v) : w.drew.cell? ⟨b, o, none⟩ = some v := hc
theorem ksetY {w : World} {b o g p : Nat} {v u : Value} (h : b ≠ g) (hc : w.cell? ⟨b, o, none⟩ = some v) : (w.setCell ⟨g, p, none⟩ u).cell? ⟨b, o, none⟩ = some v := by
  rw [← hc]; exact World.cell?_of_block (w := w) (heap_setCell_other w ⟨g, p, none⟩ b u h)
theorem hdrewY (w : World) : w.drew.heap.size = w.heap.size := rfl
/-- inside: the variable of the result at the first block, the reader behind it, the trap's variable -/
structure Sv (w : World) (gT k : Nat) (wx : World) (cs : Array Value) (c wi : Int) (s : Bool) (r i : Int) : Prop where
  bel : Below w.heap.size w wx
  cu : Cu wx w.heap.size (w.heap.size + 1) k
  res : Box wx w.heap.size 35 cs
  tv : Box wx gT 35 (trA c wi s r i)
  ne1 : gT ≠ w.heap.size
  ne2 : gT ≠ w.heap.size + 1
section
variable {w wx wy : World} {gT k k' : Nat} {cs : Array Value} {c wi : Int} {s : Bool} {r i : Int}
theorem Sv.drew (S : Sv w gT k wx cs c wi s r i) : Sv w gT k wx.drew cs c wi s r i := ⟨S.bel.drew, S.cu.below (Below.drew (Below.refl _ _)), S.res.drew, S.tv.drew, S.ne1, S.ne2⟩
theorem Sv.alloc (S : Sv w gT k wx cs c wi s r i) (o : Obj) : Sv w gT k (wx.alloc o) cs c wi s r i := ⟨below_next S.bel (below_alloc _ _), S.cu.below (below_alloc _ _), S.res.alloc o, S.tv.alloc o, S.ne1, S.ne2⟩
theorem Sv.below (S : Sv w gT k wx cs c wi s r i) (hb : Below wx.heap.size wx wy) : Sv w gT k wy cs c wi s r i := ⟨below_next S.bel hb, S.cu.below hb, S.res.keep hb, S.tv.keep hb, S.ne1, S.ne2⟩
theorem Sv.step (S : Sv w gT k wx cs c wi s r i) (hc : Cu wy w.heap.size (w.heap.size + 1) k') (hf : Far (w.heap.size + 1) wx wy) : Sv w gT k' wy cs c wi s r i :=
  ⟨S.bel.trans (hf.below (Nat.le_succ _) S.bel.size), hc, S.res.farC hf (by omega), S.tv.farC hf S.ne2, S.ne1, S.ne2⟩
theorem Sv.put (S : Sv w gT k wx cs c wi s r i) (p : Nat) (u : Value) : Sv w gT k (wx.setCell ⟨w.heap.size, p, none⟩ u) (cs.setIfInBounds p u) c wi s r i :=
  ⟨S.bel.setCell (Nat.le_refl _) u, S.cu.put (Nat.le_refl _) (by omega) u, S.res.put p u, S.tv.far (a := ⟨w.heap.size, p, none⟩) S.ne1 u, S.ne1, S.ne2⟩
theorem Sv.put5 (S : Sv w gT k wx (trA 0 0 false 0 0) c wi s r i) :
    Sv w gT k (((((wx.setCell ⟨w.heap.size, 0, none⟩ (.int .i64 c)).setCell ⟨w.heap.size, 1, none⟩ (.int .i64 wi)).setCell ⟨w.heap.size, 2, none⟩ (.bool s)).setCell ⟨w.heap.size, 3, none⟩ (.int .i64 r)).setCell ⟨w.heap.size, 4, none⟩ (.int .i64 i)) (trA c wi s r i) c wi s r i :=
  ((((S.put 0 (.int .i64 c)).put 1 (.int .i64 wi)).put 2 (.bool s)).put 3 (.int .i64 r)).put 4 (.int .i64 i)
end
theorem own_put5 {w w0 : World} {B : Nat} {t : Thing} (h : Own w B t) (hb : w0.heap.size < B) (u0 u1 u2 u3 u4 : Value) :
    Own (((((w.setCell ⟨w0.heap.size, 0, none⟩ u0).setCell ⟨w0.heap.size, 1, none⟩ u1).setCell ⟨w0.heap.size, 2, none⟩ u2).setCell ⟨w0.heap.size, 3, none⟩ u3).setCell ⟨w0.heap.size, 4, none⟩ u4) B t := by
  have n := own_ne h hb
  exact own_put (own_put (own_put (own_put (own_put h n u0) n u1) n u2) n u3) n u4

set_option maxRecDepth 100000 in
set_option maxHeartbeats 4000000 in
theorem DrawStoredValue_any (A : Option Addr) (n ca : Nat) (w : World) (h : Code w w.heap.size A n) :
    Calls Try.prog 23 #[.slice A n ca] w fun e w' => ∃ (c wi : Int) (s : Bool) (r i : Int) (A' : Option Addr) (n' c' : Nat) (xs : List Int), e = .returned (.tuple #[trapV c wi s r i, .slice A' n' c']) ∧ n' ≤ 4 ∧ Own w' w.heap.size (ti A' n' c' xs) ∧ Below w.heap.size w w' := by
  have HC0 := Lib.hid (Cu.new2 (c := ca) h (.cells (trA 0 0 false 0 0) 35))
  have X0 := Lib.hid ((Box.new w 35 (trA 0 0 false 0 0)).alloc (.cells #[.slice A n ca, .int .i64 0, .int .u64 0] 90))
  clear h
  go_enter Try.func23, Try.ntmps23
  go_wp2_with fail
  refine (deviceTrap_any HC0.out (by omega)).mono ?_
  rintro e w1 ⟨c, wi, s, r, i, rfl, ⟨k1, hk1, hc1⟩, hf1⟩
  go_upto_region 3 with (fail)
  obtain ⟨w2, hw2⟩ : ∃ w2, w2 = w1.alloc (.cells #[.int .i64 c, .int .i64 wi, .bool s, .int .i64 r, .int .i64 i] 35) := ⟨_, rfl⟩
  obtain ⟨gT, hgT⟩ : ∃ gT, gT = w1.heap.size := ⟨_, rfl⟩
  have HS2 := Lib.hid (show Sv w gT k1 w2 (trA 0 0 false 0 0) c wi s r i by
    have X1 := X0.out.farC hf1 (by omega)
    have h1 := X1.lt
    have h2 := hc1.lt
    rw [hw2, hgT]
    exact ⟨below_next (far_below1 hf1) (below_alloc _ _), hc1.below (below_alloc _ _), X1.alloc _, Box.new w1 _ _, by omega, by omega⟩)
  rw [← hw2, ← hgT]
  clear hw2 hgT HC0 X0 hc1 hf1
  have S0 := HS2.out.drew
  have S5 := HS2.out.put5.drew
  have hsz := HS2.out.res.lt
  have D := S0.res.cell
  have E := S0.res.free
  have n1 := S0.ne1
  have n2 := S0.ne2
  have dc0 : w2.cell? ⟨gT, 0, none⟩ = some (.int .i64 c) := HS2.out.tv.cell 0
  have cc0 : w2.drew.cell? ⟨gT, 0, none⟩ = some (.int .i64 c) := dc0
  have dc1 : w2.cell? ⟨gT, 1, none⟩ = some (.int .i64 wi) := HS2.out.tv.cell 1
  have cc1 : w2.drew.cell? ⟨gT, 1, none⟩ = some (.int .i64 wi) := dc1
  have dc2 : w2.cell? ⟨gT, 2, none⟩ = some (.bool s) := HS2.out.tv.cell 2
  have cc2 : w2.drew.cell? ⟨gT, 2, none⟩ = some (.bool s) := dc2
  have dc3 : w2.cell? ⟨gT, 3, none⟩ = some (.int .i64 r) := HS2.out.tv.cell 3
  have cc3 : w2.drew.cell? ⟨gT, 3, none⟩ = some (.int .i64 r) := dc3
  have dc4 : w2.cell? ⟨gT, 4, none⟩ = some (.int .i64 i) := HS2.out.tv.cell 4
  have cc4 : w2.drew.cell? ⟨gT, 4, none⟩ = some (.int .i64 i) := dc4
  go_region_held3 (fun w' => w'.cell? ⟨gT, 0, none⟩ = some (.int .i64 c) ∧ w'.cell? ⟨gT, 1, none⟩ = some (.int .i64 wi) ∧ w'.cell? ⟨gT, 2, none⟩ = some (.bool s) ∧ w'.cell? ⟨gT, 3, none⟩ = some (.int .i64 r) ∧ w'.cell? ⟨gT, 4, none⟩ = some (.int .i64 i))
    (first | (with_reducible exact ⟨q0, q1, q2, q3, q4⟩) | (with_reducible exact ⟨cc0, cc1, cc2, cc3, cc4⟩) | (refine ⟨?_, ?_, ?_, ?_, ?_⟩ <;> (repeat (first | (with_reducible exact q0) | (with_reducible exact q1) | (with_reducible exact q2) | (with_reducible exact q3) | (with_reducible exact q4) | (with_reducible exact cc0) | (with_reducible exact cc1) | (with_reducible exact cc2) | (with_reducible exact cc3) | (with_reducible exact cc4) | (with_reducible exact dc0) | (with_reducible exact dc1) | (with_reducible exact dc2) | (with_reducible exact dc3) | (with_reducible exact dc4) | (with_reducible refine ksetY (by omega) ?_) | (with_reducible refine kallocY ?_) | (with_reducible refine kdrewY ?_))))) (first
    | (go_at_call 85; (first | (have Sa := S0; with_reducible refine (registers5_any Sa.cu (Nat.le_trans hk1 (by decide))).mono ?_) | (have Sa := S5; with_reducible refine (registers5_any Sa.cu (Nat.le_trans hk1 (by decide))).mono ?_)); rintro e w4 ⟨A4, n4, c4, xs, rfl, hn4, ho4, ⟨k4, hk4, hc4⟩, hf4⟩; have S4 := Sa.step hc4 hf4; have q0 : w4.cell? ⟨gT, 0, none⟩ = some (.int .i64 c) := S4.tv.cell 0; have q1 : w4.cell? ⟨gT, 1, none⟩ = some (.int .i64 wi) := S4.tv.cell 1; have q2 : w4.cell? ⟨gT, 2, none⟩ = some (.bool s) := S4.tv.cell 2; have q3 : w4.cell? ⟨gT, 3, none⟩ = some (.int .i64 r) := S4.tv.cell 3; have q4 : w4.cell? ⟨gT, 4, none⟩ = some (.int .i64 i) := S4.tv.cell 4; have D4 := S4.res.cell; have E4 := S4.res.free; (try simp only [hdrewY, World.size_setCell] at ho4)))
  all_goals
    have HS4 := Lib.hid S4
    have HO4 := Lib.hid ho4
    clear S0 S5 D E
    go_wp2
    refine bodyPost_ret (v := .tuple #[trapV c wi s r i, .slice A4 n4 c4]) (by simp [results, Try.results23, go_sem, D4, E4]) rfl ?_
    exact ⟨c, wi, s, r, i, A4, n4, c4, xs, rfl, hn4, own_less (own_put5 HO4.out hsz _ _ _ _ _) (Nat.le_of_lt hsz), HS4.out.put5.bel⟩
set_option maxRecDepth 100000 in
set_option maxHeartbeats 8000000 in
theorem DrawLoadValue_any (A : Option Addr) (n ca : Nat) (w : World) (h : Code w w.heap.size A n) :
    Calls Try.prog 18 #[.slice A n ca] w fun e w' => ∃ (c wi : Int) (s : Bool) (r i : Int) (A' : Option Addr) (n' c' : Nat) (xs : List Int) (v : Int), e = .returned (.tuple #[trapV c wi s r i, .slice A' n' c', .int .i64 v]) ∧ n' ≤ 4 ∧ Own w' w.heap.size (ti A' n' c' xs) ∧ Below w.heap.size w w' := by
  have HC0 := Lib.hid (Cu.new2 (c := ca) h (.cells (trA 0 0 false 0 0) 35))
  have X0 := Lib.hid ((Box.new w 35 (trA 0 0 false 0 0)).alloc (.cells #[.slice A n ca, .int .i64 0, .int .u64 0] 90))
  clear h
  go_enter Try.func18, Try.ntmps18
  go_wp2_with fail
  refine (deviceTrap_any HC0.out (by omega)).mono ?_
  rintro e w1 ⟨c, wi, s, r, i, rfl, ⟨k1, hk1, hc1⟩, hf1⟩
  go_upto_region 3 with (fail)
  obtain ⟨w2, hw2⟩ : ∃ w2, w2 = w1.alloc (.cells #[.int .i64 c, .int .i64 wi, .bool s, .int .i64 r, .int .i64 i] 35) := ⟨_, rfl⟩
  obtain ⟨gT, hgT⟩ : ∃ gT, gT = w1.heap.size := ⟨_, rfl⟩
  have HS2 := Lib.hid (show Sv w gT k1 w2 (trA 0 0 false 0 0) c wi s r i by
    have X1 := X0.out.farC hf1 (by omega)
    have h1 := X1.lt
    have h2 := hc1.lt
    rw [hw2, hgT]
    exact ⟨below_next (far_below1 hf1) (below_alloc _ _), hc1.below (below_alloc _ _), X1.alloc _, Box.new w1 _ _, by omega, by omega⟩)
  rw [← hw2, ← hgT]
  clear hw2 hgT HC0 X0 hc1 hf1
  have hsz := HS2.out.res.lt
  have hcl := HS2.out.cu.lt
  go_wp2_with fail
  refine (registers5_any HS2.out.cu (by omega)).mono ?_
  rintro e w3 ⟨A3, n3, c3, xs, rfl, hn3, ho3, ⟨k3, hk3, hc3⟩, hf3⟩
  have HS3 := Lib.hid (HS2.out.step hc3 hf3)
  have HO3 := Lib.hid ho3
  have HNG := Lib.hid (own_ne ho3 hcl)
  have hk3' : k3 ≤ 1000 := by omega
  clear hc3 hf3 ho3 HS2
  go_upto_region 4 with (fail)
  have S0 := HS3.out.drew
  have S1 := (HS3.out.alloc (.cells #[.int .i64 0, .int .i64 255, .int .i64 256, .int .i64 65537, .int .i64 4294967295, .int .i64 (-1), .int .i64 4294967296] 3)).drew
  have O0 : Own w3.drew _ _ := HO3.out
  have O1 : Own (w3.alloc (.cells #[.int .i64 0, .int .i64 255, .int .i64 256, .int .i64 65537, .int .i64 4294967295, .int .i64 (-1), .int .i64 4294967296] 3)).drew _ _ := World.ownsRow.alloc HO3.out (.cells #[.int .i64 0, .int .i64 255, .int .i64 256, .int .i64 65537, .int .i64 4294967295, .int .i64 (-1), .int .i64 4294967296] 3)
  have XL1 := (Box.new w3 3 #[.int .i64 0, .int .i64 255, .int .i64 256, .int .i64 65537, .int .i64 4294967295, .int .i64 (-1), .int .i64 4294967296]).drew
  have hcl3 := HS3.out.cu.lt
  have dc0 : w3.cell? ⟨gT, 0, none⟩ = some (.int .i64 c) := HS3.out.tv.cell 0
  have cc0 : w3.drew.cell? ⟨gT, 0, none⟩ = some (.int .i64 c) := dc0
  have dc1 : w3.cell? ⟨gT, 1, none⟩ = some (.int .i64 wi) := HS3.out.tv.cell 1
  have cc1 : w3.drew.cell? ⟨gT, 1, none⟩ = some (.int .i64 wi) := dc1
  have dc2 : w3.cell? ⟨gT, 2, none⟩ = some (.bool s) := HS3.out.tv.cell 2
  have cc2 : w3.drew.cell? ⟨gT, 2, none⟩ = some (.bool s) := dc2
  have dc3 : w3.cell? ⟨gT, 3, none⟩ = some (.int .i64 r) := HS3.out.tv.cell 3
  have cc3 : w3.drew.cell? ⟨gT, 3, none⟩ = some (.int .i64 r) := dc3
  have dc4 : w3.cell? ⟨gT, 4, none⟩ = some (.int .i64 i) := HS3.out.tv.cell 4
  have cc4 : w3.drew.cell? ⟨gT, 4, none⟩ = some (.int .i64 i) := dc4
  have D := S0.res.cell
  have E := S0.res.free
  have n1 := S0.ne1
  have n2 := S0.ne2
  go_region_held3 (fun w' => w'.cell? ⟨gT, 0, none⟩ = some (.int .i64 c) ∧ w'.cell? ⟨gT, 1, none⟩ = some (.int .i64 wi) ∧ w'.cell? ⟨gT, 2, none⟩ = some (.bool s) ∧ w'.cell? ⟨gT, 3, none⟩ = some (.int .i64 r) ∧ w'.cell? ⟨gT, 4, none⟩ = some (.int .i64 i))
    (first | (with_reducible exact ⟨q0, q1, q2, q3, q4⟩) | (with_reducible exact ⟨cc0, cc1, cc2, cc3, cc4⟩) | (refine ⟨?_, ?_, ?_, ?_, ?_⟩ <;> (repeat (first | (with_reducible exact q0) | (with_reducible exact q1) | (with_reducible exact q2) | (with_reducible exact q3) | (with_reducible exact q4) | (with_reducible exact cc0) | (with_reducible exact cc1) | (with_reducible exact cc2) | (with_reducible exact cc3) | (with_reducible exact cc4) | (with_reducible exact dc0) | (with_reducible exact dc1) | (with_reducible exact dc2) | (with_reducible exact dc3) | (with_reducible exact dc4) | (with_reducible refine ksetY (by omega) ?_) | (with_reducible refine kallocY ?_) | (with_reducible refine kdrewY ?_))))) (first
    | (go_at_call 79; (first | (have Sa := S0; have Oa := O0; refine (pick_any 24 Sa.cu (Nat.le_trans hk3' (by decide)) (by decide) (by decide)).mono ?_) | (have Sa := S1; have Oa := O1; refine (pick_any 24 Sa.cu (Nat.le_trans hk3' (by decide)) (by decide) (by decide)).mono ?_)); rintro e w5 ⟨x, ⟨hx0, hx1, _⟩, rfl, ⟨k5, hk5, hc5⟩, hf5⟩; have hx2 := hx1 (by decide); have S5 := Sa.step hc5 hf5; have O5 := own_far Oa hf5 HNG.out; have g0 : x.tdiv 11 = x / 11 := (Int.tdiv_eq_ediv_of_nonneg (by omega)); have g1 : IntKind.i64.wrap (x / 11) = x / 11 := (IntWalk.i64_in _ (by omega)); have g2 : IntKind.i64.wrap (5 + x / 11) = 5 + x / 11 := (IntWalk.i64_in _ (by omega)); have f1 : (0 : Int) ≤ 5 + x / 11 := (by omega); have f2 : (5 : Int) + x / 11 ≤ 7 := (by omega); have hk5' : k5 ≤ 2000 := (by omega); (first | (have XL := XL1.farC hf5 (by omega)) | skip); clear hf5 hc5 hx1; (try clear q0 q1 q2 q3 q4); have q0 : w5.cell? ⟨gT, 0, none⟩ = some (.int .i64 c) := S5.tv.cell 0; have q1 : w5.cell? ⟨gT, 1, none⟩ = some (.int .i64 wi) := S5.tv.cell 1; have q2 : w5.cell? ⟨gT, 2, none⟩ = some (.bool s) := S5.tv.cell 2; have q3 : w5.cell? ⟨gT, 3, none⟩ = some (.int .i64 r) := S5.tv.cell 3; have q4 : w5.cell? ⟨gT, 4, none⟩ = some (.int .i64 i) := S5.tv.cell 4)
    | (go_at_call 86; (first | (have Sb := S5; have Ob := O5; refine (among_cut (-1) 4294967296 _ _ _ _ XL Sb.cu (by omega) (by omega) (by omega) (by omega) (by show _ ≤ 7; omega) _ (by decide)).mono ?_) | (have Sb := S5.alloc (.cells #[.int .i64 0, .int .i64 255, .int .i64 256, .int .i64 65537, .int .i64 4294967295, .int .i64 (-1), .int .i64 4294967296] 3); have Ob := World.ownsRow.alloc O5 (.cells #[.int .i64 0, .int .i64 255, .int .i64 256, .int .i64 65537, .int .i64 4294967295, .int .i64 (-1), .int .i64 4294967296] 3); have XL := Box.new w5 3 #[.int .i64 0, .int .i64 255, .int .i64 256, .int .i64 65537, .int .i64 4294967295, .int .i64 (-1), .int .i64 4294967296]; have hcl5 := S5.cu.lt; refine (among_cut (-1) 4294967296 _ _ _ _ XL Sb.cu (by omega) (by omega) (by omega) (by omega) (by show _ ≤ 7; omega) _ (by decide)).mono ?_)); rintro e w6 ⟨q, _, rfl, ⟨k6, hk6, hc6⟩, hf6⟩; have S6 := Sb.step hc6 hf6; have O6 := own_far Ob hf6 HNG.out; have D6 := S6.res.cell; have E6 := S6.res.free; clear hf6 hc6; (try clear q0 q1 q2 q3 q4); have q0 : w6.cell? ⟨gT, 0, none⟩ = some (.int .i64 c) := S6.tv.cell 0; have q1 : w6.cell? ⟨gT, 1, none⟩ = some (.int .i64 wi) := S6.tv.cell 1; have q2 : w6.cell? ⟨gT, 2, none⟩ = some (.bool s) := S6.tv.cell 2; have q3 : w6.cell? ⟨gT, 3, none⟩ = some (.int .i64 r) := S6.tv.cell 3; have q4 : w6.cell? ⟨gT, 4, none⟩ = some (.int .i64 i) := S6.tv.cell 4))
  all_goals
    have HS6 := Lib.hid S6
    have HO6 := Lib.hid O6
    clear g0 g1 g2 f1 f2 S0 S1 O0 O1 O6 S6
    go_wp2
    refine bodyPost_ret (v := .tuple #[trapV c wi s r i, .slice A3 n3 c3, .int .i64 q]) (by simp [results, Try.results18, go_sem, D6, E6]) rfl ?_
    exact ⟨c, wi, s, r, i, A3, n3, c3, xs, q, rfl, hn3, own_less (own_put5 HO6.out hsz _ _ _ _ _) (Nat.le_of_lt hsz), HS6.out.put5.bel⟩
end Go.Proofs.Ytcdocgmikpccoaa
