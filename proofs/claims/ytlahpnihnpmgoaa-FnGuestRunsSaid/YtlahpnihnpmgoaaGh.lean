/- Contracts of what is drawn for the law of guests' runs: DrawIsProgram, DrawReachedBy, DrawAreRegisters, DrawStepGuest, DrawRunGuest. The code of at most 65536 bytes. -/
import Derived.Test.YtlahpnihnpmgoaaGf
import Derived.Deep.RegionHeld3
import Derived.IntWalk
namespace Go.Proofs.Ytlahpnihnpmgoaa
open Go.RowKit
set_option linter.unusedVariables false
set_option linter.unusedSimpArgs false
attribute [local go_sem ↓] Go.wp_at_zero Go.wp_at_succ

theorem kcellG {w w' : World} {b o : Nat} {v : Value} (h : Below w.heap.size w w') (hb : b < w.heap.size) (hc : w.cell? ⟨b, o, none⟩ = some v) : w'.cell? ⟨b, o, none⟩ = some v := (h.cell (p := ⟨b, o, none⟩) hb).trans hc
theorem kallocG {w : World} {b o : Nat} {v : Value} {ob : Obj} (hc : w.cell? ⟨b, o, none⟩ = some v) : (w.alloc ob).cell? ⟨b, o, none⟩ = some v :=
  kcellG (below_alloc w ob) (by have := World.block_lt_of_cell? _ _ hc; exact this) hc
theorem kdrewG {w : World} {b o : Nat} {v : Value} (hc : w.cell? ⟨b, o, none⟩ = some v) : w.drew.cell? ⟨b, o, none⟩ = some v := hc
theorem ksetG {w : World} {b o g p : Nat} {v u : Value} (h : b ≠ g) (hc : w.cell? ⟨b, o, none⟩ = some v) : (w.setCell ⟨g, p, none⟩ u).cell? ⟨b, o, none⟩ = some v := by
  rw [← hc]; exact World.cell?_of_block (w := w) (heap_setCell_other w ⟨g, p, none⟩ b u h)
theorem Code.upG {w w' : World} {B B' n : Nat} {A : Option Addr} (h : Code w B A n) (hb : Below w.heap.size w w') (hB : B ≤ B') : Code w' B' A n :=
  ⟨h.1, fun hn => by
    obtain ⟨b, o, e, h1, h2, h3⟩ := h.2 hn
    refine ⟨b, o, e, Nat.lt_of_lt_of_le h1 hB, Nat.lt_of_lt_of_le h2 hb.size, fun i hi => ?_⟩
    rw [hb.cell (p := ⟨b, o + i, none⟩) h2]
    exact h3 i hi⟩
theorem Cu.new2G {w : World} {A : Option Addr} {n c : Nat} (h : Code w w.heap.size A n) (o : Obj) :
    Cu ((w.alloc o).alloc (.cells #[.slice A n c, .int .i64 0, .int .u64 0] 61)) w.heap.size (w.heap.size + 1) 0 := by
  have h1 := Box.new (w.alloc o) 61 #[.slice A n c, .int .i64 0, .int .u64 0]
  rw [size_alloc] at h1
  exact ⟨Nat.le_succ _, A, n, c, 0, h1, h.upG (below_next (below_alloc w o) (below_alloc _ _)) (Nat.le_refl _)⟩
theorem Cu.putG {w : World} {B g k b p : Nat} (h : Cu w B g k) (hB : B ≤ b) (hg : b ≠ g) (u : Value) : Cu (w.setCell ⟨b, p, none⟩ u) B g k :=
  h.grown (grown_put b p u) (fun e => hg (by cases e; rfl)) (fun x e => by cases e; exact hB)
theorem own_putG {w : World} {B b p : Nat} {t : Thing} (h : Own w B t) (hb : b < B) (u : Value) : Own (w.setCell ⟨b, p, none⟩ u) B t :=
  World.ownsRow.kept h (grown_put b p u) (by rw [ownBlock_slice]; exact .inr (fun e => by have := blk_own h b e; omega))
theorem own_neG {w : World} {B b : Nat} {t : Thing} (h : Own w B t) (hb : b < B) : blk t.A ≠ some b := fun e => by have := blk_own h b e; omega
theorem own_belG {w w' : World} {B : Nat} {t : Thing} (h : Own w B t) (hb : Below w.heap.size w w') : Own w' B t := by
  refine World.ownsRow.kept (row := none) h (grown_of_below hb _) ?_
  cases hA : t.A <;> simp [ownBlock_slice, blk]
abbrev r0A : Array Value := #[.slice none 0 0, .int .i64 0, .bool false, .bool false]
/-- inside: the variable of the result at the first block, the reader behind it, then the program and the words -/
structure Gu (w : World) (k : Nat) (wx : World) (cs : Array Value) (t u : Thing) : Prop where
  bel : Below w.heap.size w wx
  cu : Cu wx w.heap.size (w.heap.size + 1) k
  res : Box wx w.heap.size 37 cs
  op : Own wx (w.heap.size + 2) t
  ow : Own wx (w.heap.size + 2) u
section
variable {w wx wy : World} {gT k k' : Nat} {cs : Array Value} {t u : Thing}
theorem Gu.below (S : Gu w k wx cs t u) (hb : Below wx.heap.size wx wy) : Gu w k wy cs t u := ⟨below_next S.bel hb, S.cu.below hb, S.res.keep hb, own_belG S.op hb, own_belG S.ow hb⟩
theorem Gu.step (S : Gu w k wx cs t u) (hc : Cu wy w.heap.size (w.heap.size + 1) k') (hf : Far (w.heap.size + 1) wx wy) : Gu w k' wy cs t u :=
  ⟨S.bel.trans (hf.below (Nat.le_succ _) S.bel.size), hc, S.res.farC hf (by omega), own_far S.op hf (own_neG S.op (by omega)), own_far S.ow hf (own_neG S.ow (by omega))⟩
theorem Gu.put (S : Gu w k wx cs t u) (p : Nat) (v : Value) : Gu w k (wx.setCell ⟨w.heap.size, p, none⟩ v) (cs.setIfInBounds p v) t u :=
  ⟨S.bel.setCell (Nat.le_refl _) v, S.cu.putG (Nat.le_refl _) (by omega) v, S.res.put p v, own_putG S.op (by omega) v, own_putG S.ow (by omega) v⟩
theorem Gu.put4 (S : Gu w k wx cs t u) (v0 v1 v2 v3 : Value) : ∃ cs', Gu w k ((((wx.setCell ⟨w.heap.size, 0, none⟩ v0).setCell ⟨w.heap.size, 1, none⟩ v1).setCell ⟨w.heap.size, 2, none⟩ v2).setCell ⟨w.heap.size, 3, none⟩ v3) cs' t u :=
  ⟨_, (((S.put 0 v0).put 1 v1).put 2 v2).put 3 v3⟩
/-- and the variable of the registers -/
structure Gv (w : World) (gT k : Nat) (wx : World) (cs ds : Array Value) (t u : Thing) : Prop where
  gu : Gu w k wx cs t u
  tv : Box wx gT 37 ds
  ne1 : gT ≠ w.heap.size
  ne2 : gT ≠ w.heap.size + 1
variable {ds : Array Value}
theorem Gv.below (S : Gv w gT k wx cs ds t u) (hb : Below wx.heap.size wx wy) : Gv w gT k wy cs ds t u := ⟨S.gu.below hb, S.tv.keep hb, S.ne1, S.ne2⟩
theorem Gv.drew (S : Gv w gT k wx cs ds t u) : Gv w gT k wx.drew cs ds t u := S.below (Below.drew (Below.refl _ _))
theorem Gv.alloc (S : Gv w gT k wx cs ds t u) (o : Obj) : Gv w gT k (wx.alloc o) cs ds t u := S.below (below_alloc _ _)
theorem Gv.step (S : Gv w gT k wx cs ds t u) (hc : Cu wy w.heap.size (w.heap.size + 1) k') (hf : Far (w.heap.size + 1) wx wy) : Gv w gT k' wy cs ds t u :=
  ⟨S.gu.step hc hf, S.tv.farC hf S.ne2, S.ne1, S.ne2⟩
theorem Gv.cu (S : Gv w gT k wx cs ds t u) : Cu wx w.heap.size (w.heap.size + 1) k := S.gu.cu
theorem Gv.res (S : Gv w gT k wx cs ds t u) : Box wx w.heap.size 37 cs := S.gu.res
theorem Gv.bel (S : Gv w gT k wx cs ds t u) : Below w.heap.size w wx := S.gu.bel
end
theorem gu_new {w w1 : World} {o o' : Obj} {cs : Array Value} (ho : o = .cells cs 37) {k : Nat} {t : Thing} (hc : Cu w1 w.heap.size (w.heap.size + 1) k) (hf : Far (w.heap.size + 1) ((w.alloc o).alloc o') w1) (h : Own w1 ((w.alloc o).alloc o').heap.size t) : Gu w k w1 cs t (ti none 0 0 []) := by
  subst ho
  have hb := below_next (below_alloc w (.cells cs 37)) (below_alloc _ o')
  have hx := ((Box.new w 37 cs).alloc o').farC hf (by omega)
  simp only [size_alloc] at h
  exact ⟨hb.trans (hf.below (Nat.le_succ _) hb.size), hc, hx, h, own_nil _ _⟩

set_option maxHeartbeats 2000000 in
theorem DrawIsProgram_any (A : Option Addr) (n ca : Nat) (w : World) (h : Code w w.heap.size A n) :
    Calls Try.prog 49 #[.slice A n ca] w fun e w' => ∃ (Ap : Option Addr) (np cp : Nat) (ps : List RInstruction), e = .returned (.slice Ap np cp) ∧ np ≤ 20 ∧ Own w' w.heap.size (tsInstruction Ap np cp ps) ∧ Below w.heap.size w w' := by
  have HC := Lib.hid (Cu.new (c := ca) h)
  clear h
  go_enter Try.func49, Try.ntmps49
  go_wp2_with fail
  refine (program_any HC.out (by omega)).mono ?_
  rintro e w1 ⟨Ap, np, cp, ps, rfl, hn, ho, ⟨k, hk, hc⟩, hf⟩
  have HB := Lib.hid ((below_alloc w (.cells #[.slice A n ca, .int .i64 0, .int .u64 0] 61)).trans (hf.below (Nat.le_refl _) (below_alloc w _).size))
  have HO := Lib.hid (own_less ho (by rw [size_alloc]; exact Nat.le_succ _ : w.heap.size ≤ _))
  clear hc hf ho HC
  go_wp2
  go_ret
  exact ⟨Ap, np, cp, ps, rfl, hn, HO.out, HB.out⟩
set_option maxHeartbeats 2000000 in
theorem DrawReachedBy_any (A : Option Addr) (n ca : Nat) (w : World) (h : Code w w.heap.size A n) :
    Calls Try.prog 24 #[.slice A n ca] w fun e w' => ∃ (Ap : Option Addr) (np cp : Nat) (ps : List RInstruction), e = .returned (.slice Ap np cp) ∧ np ≤ 20 ∧ Own w' w.heap.size (tsInstruction Ap np cp ps) ∧ Below w.heap.size w w' := by
  have HC := Lib.hid h
  clear h
  go_enter Try.func24, Try.ntmps24
  go_wp2_with fail
  refine (DrawIsProgram_any A n ca _ HC.out).mono ?_
  rintro e w1 ⟨Ap, np, cp, ps, rfl, hn, ho, hb⟩
  have HO := Lib.hid ho
  have HB := Lib.hid hb
  clear ho hb
  go_wp2
  go_ret
  exact ⟨Ap, np, cp, ps, rfl, hn, HO.out, HB.out⟩
set_option maxHeartbeats 4000000 in
theorem DrawAreRegisters_any (A : Option Addr) (n ca : Nat) (w : World) (h : Code w w.heap.size A n) :
    Calls Try.prog 48 #[.slice A n ca] w fun e w' => ∃ (Ap : Option Addr) (np cp : Nat) (ps : List RInstruction) (A3 : Option Addr) (n3 c3 : Nat) (rs : List Int) (a : Int) (z s : Bool), e = .returned (.tuple #[.slice Ap np cp, regV A3 n3 c3 a z s]) ∧ np ≤ 20 ∧ n3 ≤ 4 ∧ Own w' w.heap.size (tsInstruction Ap np cp ps) ∧ Own w' w.heap.size (ti A3 n3 c3 rs) ∧ Below w.heap.size w w' := by
  have HC := Lib.hid (Cu.new2G (c := ca) h (.cells r0A 37))
  clear h
  go_enter Try.func48, Try.ntmps48
  go_wp2_with fail
  refine (program_any HC.out (by omega)).mono ?_
  rintro e w1 ⟨Ap, np, cp, ps, rfl, hnp, hop, ⟨k1, hk1, hc1⟩, hf1⟩
  have HS1 := Lib.hid (gu_new rfl hc1 hf1 hop)
  clear hc1 hf1 hop HC
  go_wp2_with fail
  refine (registers_any Ap np cp HS1.out.cu (by omega) (by omega)).mono ?_
  rintro e w2 ⟨A3, n3, c3, rs, a, z, s, rfl, hn3, ho, ⟨k2, hk2, hc2⟩, hf2⟩
  have HS2 := Lib.hid (show Gu w k2 w2 r0A (tsInstruction Ap np cp ps) (ti A3 n3 c3 rs) by
    have T := HS1.out.step hc2 hf2
    refine ⟨T.bel, T.cu, T.res, T.op, own_less ho ?_⟩
    have := HS1.out.cu.lt
    omega)
  clear hc2 hf2 ho HS1
  have D := HS2.out.res.cell
  have E := HS2.out.res.free
  obtain ⟨cs', S⟩ := HS2.out.put4 (.slice A3 n3 c3) (.int .i64 a) (.bool z) (.bool s)
  have HS3 := Lib.hid S
  clear S
  go_wp2
  refine bodyPost_ret (v := .tuple #[.slice Ap np cp, regV A3 n3 c3 a z s]) (by simp [results, Try.results48, go_sem, D, E]) rfl ?_
  exact ⟨Ap, np, cp, ps, A3, n3, c3, rs, a, z, s, rfl, hnp, hn3, own_less HS3.out.op (by omega), own_less HS3.out.ow (by omega), HS3.out.bel⟩
set_option maxHeartbeats 4000000 in
theorem DrawStepGuest_any (A : Option Addr) (n ca : Nat) (w : World) (h : Code w w.heap.size A n) :
    Calls Try.prog 22 #[.slice A n ca] w fun e w' => ∃ (Ap : Option Addr) (np cp : Nat) (ps : List RInstruction) (A3 : Option Addr) (n3 c3 : Nat) (rs : List Int) (a : Int) (z s : Bool), e = .returned (.tuple #[.slice Ap np cp, regV A3 n3 c3 a z s]) ∧ np ≤ 20 ∧ n3 ≤ 4 ∧ Own w' w.heap.size (tsInstruction Ap np cp ps) ∧ Own w' w.heap.size (ti A3 n3 c3 rs) ∧ Below w.heap.size w w' := by
  have HC := Lib.hid (h.upG (below_alloc w (.cells r0A 37)) (B' := (w.alloc (.cells r0A 37)).heap.size) (by simp))
  have HX := Lib.hid (Box.new w 37 r0A)
  clear h
  go_enter Try.func22, Try.ntmps22
  go_wp2_with fail
  refine (DrawAreRegisters_any A n ca _ HC.out).mono ?_
  rintro e w1 ⟨Ap, np, cp, ps, A3, n3, c3, rs, a, z, s, rfl, hnp, hn3, hop, how, hb⟩
  have X1 := HX.out.keep hb
  have HB := Lib.hid (below_next (below_alloc w (.cells r0A 37)) hb)
  simp only [size_alloc] at hop how
  have HO := Lib.hid hop
  have HW := Lib.hid how
  have D := X1.cell
  have E := X1.free
  clear hop how hb HX X1 HC
  go_wp2
  refine bodyPost_ret (v := .tuple #[.slice Ap np cp, regV A3 n3 c3 a z s]) (by simp [results, Try.results22, go_sem, D, E]) rfl ?_
  refine ⟨Ap, np, cp, ps, A3, n3, c3, rs, a, z, s, rfl, hnp, hn3, own_less (B := w.heap.size + 1) ?_ (by omega), own_less (B := w.heap.size + 1) ?_ (by omega), (((HB.out.setCell (Nat.le_refl _) _).setCell (Nat.le_refl _) _).setCell (Nat.le_refl _) _).setCell (Nat.le_refl _) _⟩
  · exact own_putG (own_putG (own_putG (own_putG HO.out (by omega) _) (by omega) _) (by omega) _) (by omega) _
  · exact own_putG (own_putG (own_putG (own_putG HW.out (by omega) _) (by omega) _) (by omega) _) (by omega) _
set_option maxRecDepth 100000 in
set_option maxHeartbeats 8000000 in
theorem DrawRunGuest_any (A : Option Addr) (n ca : Nat) (w : World) (h : Code w w.heap.size A n) :
    Calls Try.prog 15 #[.slice A n ca] w fun e w' => ∃ (Ap : Option Addr) (np cp : Nat) (ps : List RInstruction) (A3 : Option Addr) (n3 c3 : Nat) (rs : List Int) (a : Int) (z s : Bool) (m : Int), e = .returned (.tuple #[.slice Ap np cp, regV A3 n3 c3 a z s, .int .i64 m]) ∧ np ≤ 20 ∧ n3 ≤ 4 ∧ (-1 ≤ m ∧ m ≤ 1001) ∧ Own w' w.heap.size (tsInstruction Ap np cp ps) ∧ Own w' w.heap.size (ti A3 n3 c3 rs) ∧ Below w.heap.size w w' := by
  have HC := Lib.hid (Cu.new2G (c := ca) h (.cells r0A 37))
  clear h
  go_enter Try.func15, Try.ntmps15
  go_wp2_with fail
  refine (program_any HC.out (by omega)).mono ?_
  rintro e w1 ⟨Ap, np, cp, ps, rfl, hnp, hop, ⟨k1, hk1, hc1⟩, hf1⟩
  have HS1 := Lib.hid (gu_new rfl hc1 hf1 hop)
  clear hc1 hf1 hop HC
  go_wp2_with fail
  refine (registers_any Ap np cp HS1.out.cu (by omega) (by omega)).mono ?_
  rintro e w2 ⟨A3, n3, c3, rs, a, z, s, rfl, hn3, ho, ⟨k3, hk3, hc2⟩, hf2⟩
  have HS2 := Lib.hid (show Gu w k3 w2 r0A (tsInstruction Ap np cp ps) (ti A3 n3 c3 rs) by
    have T := HS1.out.step hc2 hf2
    refine ⟨T.bel, T.cu, T.res, T.op, own_less ho ?_⟩
    have := HS1.out.cu.lt
    omega)
  have hk3' : k3 ≤ 1000 := by omega
  clear hc2 hf2 ho HS1
  go_upto_region 4 with (fail)
  obtain ⟨w3, hw3⟩ : ∃ w3, w3 = w2.alloc (.cells #[.slice A3 n3 c3, .int .i64 a, .bool z, .bool s] 37) := ⟨_, rfl⟩
  obtain ⟨gT, hgT⟩ : ∃ gT, gT = w2.heap.size := ⟨_, rfl⟩
  have HS3 := Lib.hid (show Gv w gT k3 w3 r0A #[.slice A3 n3 c3, .int .i64 a, .bool z, .bool s] (tsInstruction Ap np cp ps) (ti A3 n3 c3 rs) by
    have h1 := HS2.out.res.lt
    have h2 := HS2.out.cu.lt
    rw [hw3, hgT]
    exact ⟨HS2.out.below (below_alloc _ _), Box.new w2 _ _, by omega, by omega⟩)
  rw [← hw3, ← hgT]
  clear hw3 hgT HS2
  have S0 := HS3.out.drew
  have S1 := (HS3.out.alloc (.cells #[.int .i64 0, .int .i64 1, .int .i64 2, .int .i64 10, .int .i64 100, .int .i64 1000, .int .i64 (-1), .int .i64 1001] 3)).drew
  have XL1 := (Box.new w3 3 #[.int .i64 0, .int .i64 1, .int .i64 2, .int .i64 10, .int .i64 100, .int .i64 1000, .int .i64 (-1), .int .i64 1001]).drew
  have hcl3 := HS3.out.cu.lt
  have dc0 : w3.cell? ⟨gT, 0, none⟩ = some (.slice A3 n3 c3) := HS3.out.tv.cell 0
  have cc0 : w3.drew.cell? ⟨gT, 0, none⟩ = some (.slice A3 n3 c3) := dc0
  have dc1 : w3.cell? ⟨gT, 1, none⟩ = some (.int .i64 a) := HS3.out.tv.cell 1
  have cc1 : w3.drew.cell? ⟨gT, 1, none⟩ = some (.int .i64 a) := dc1
  have dc2 : w3.cell? ⟨gT, 2, none⟩ = some (.bool z) := HS3.out.tv.cell 2
  have cc2 : w3.drew.cell? ⟨gT, 2, none⟩ = some (.bool z) := dc2
  have dc3 : w3.cell? ⟨gT, 3, none⟩ = some (.bool s) := HS3.out.tv.cell 3
  have cc3 : w3.drew.cell? ⟨gT, 3, none⟩ = some (.bool s) := dc3
  have D := S0.res.cell
  have E := S0.res.free
  have n1 := S0.ne1
  have n2 := S0.ne2
  go_region_held3 (fun w' => w'.cell? ⟨gT, 0, none⟩ = some (.slice A3 n3 c3) ∧ w'.cell? ⟨gT, 1, none⟩ = some (.int .i64 a) ∧ w'.cell? ⟨gT, 2, none⟩ = some (.bool z) ∧ w'.cell? ⟨gT, 3, none⟩ = some (.bool s))
    (first | (with_reducible exact ⟨q0, q1, q2, q3⟩) | (with_reducible exact ⟨cc0, cc1, cc2, cc3⟩) | (refine ⟨?_, ?_, ?_, ?_⟩ <;> (repeat (first | (with_reducible exact q0) | (with_reducible exact q1) | (with_reducible exact q2) | (with_reducible exact q3) | (with_reducible exact cc0) | (with_reducible exact cc1) | (with_reducible exact cc2) | (with_reducible exact cc3) | (with_reducible exact dc0) | (with_reducible exact dc1) | (with_reducible exact dc2) | (with_reducible exact dc3) | (with_reducible refine ksetG (by omega) ?_) | (with_reducible refine kallocG ?_) | (with_reducible refine kdrewG ?_))))) (first
    | (go_at_call 37; (first | (have Sa := S0; refine (pick_any 24 Sa.cu (Nat.le_trans hk3' (by decide)) (by decide) (by decide)).mono ?_) | (have Sa := S1; refine (pick_any 24 Sa.cu (Nat.le_trans hk3' (by decide)) (by decide) (by decide)).mono ?_)); rintro e w5 ⟨x, ⟨hx0, hx1, _⟩, rfl, ⟨k5, hk5, hc5⟩, hf5⟩; have hx2 := hx1 (by decide); have S5 := Sa.step hc5 hf5; have g0 : x.tdiv 11 = x / 11 := (Int.tdiv_eq_ediv_of_nonneg (by omega)); have g1 : IntKind.i64.wrap (x / 11) = x / 11 := (IntWalk.i64_in _ (by omega)); have g2 : IntKind.i64.wrap (6 + x / 11) = 6 + x / 11 := (IntWalk.i64_in _ (by omega)); have f1 : (0 : Int) ≤ 6 + x / 11 := (by omega); have f2 : (6 : Int) + x / 11 ≤ 8 := (by omega); have hk5' : k5 ≤ 2000 := (by omega); (first | (have XL := XL1.farC hf5 (by omega)) | skip); clear hf5 hc5 hx1; (try clear q0 q1 q2 q3); have q0 : w5.cell? ⟨gT, 0, none⟩ = some (.slice A3 n3 c3) := S5.tv.cell 0; have q1 : w5.cell? ⟨gT, 1, none⟩ = some (.int .i64 a) := S5.tv.cell 1; have q2 : w5.cell? ⟨gT, 2, none⟩ = some (.bool z) := S5.tv.cell 2; have q3 : w5.cell? ⟨gT, 3, none⟩ = some (.bool s) := S5.tv.cell 3)
    | (go_at_call 36; (first | (have Sb := S5; refine (among_box (-1) 1001 _ _ _ _ XL Sb.cu (by omega) (by omega) (by omega) (by omega) (by show _ ≤ 8; omega) _ (by decide)).mono ?_) | (have Sb := S5.alloc (.cells #[.int .i64 0, .int .i64 1, .int .i64 2, .int .i64 10, .int .i64 100, .int .i64 1000, .int .i64 (-1), .int .i64 1001] 3); have XL := Box.new w5 3 #[.int .i64 0, .int .i64 1, .int .i64 2, .int .i64 10, .int .i64 100, .int .i64 1000, .int .i64 (-1), .int .i64 1001]; have hcl5 := S5.cu.lt; refine (among_box (-1) 1001 _ _ _ _ XL Sb.cu (by omega) (by omega) (by omega) (by omega) (by show _ ≤ 8; omega) _ (by decide)).mono ?_)); rintro e w6 ⟨q, hq, rfl, ⟨k6, hk6, hc6⟩, hf6⟩; have S6 := Sb.step hc6 hf6; have D6 := S6.res.cell; have E6 := S6.res.free; clear hf6 hc6; (try clear q0 q1 q2 q3); have q0 : w6.cell? ⟨gT, 0, none⟩ = some (.slice A3 n3 c3) := S6.tv.cell 0; have q1 : w6.cell? ⟨gT, 1, none⟩ = some (.int .i64 a) := S6.tv.cell 1; have q2 : w6.cell? ⟨gT, 2, none⟩ = some (.bool z) := S6.tv.cell 2; have q3 : w6.cell? ⟨gT, 3, none⟩ = some (.bool s) := S6.tv.cell 3))
  all_goals
    have HS6 := Lib.hid S6.gu
    clear g0 g1 g2 f1 f2 S0 S1 S6
    go_wp2
    refine bodyPost_ret (v := .tuple #[.slice Ap np cp, regV A3 n3 c3 a z s, .int .i64 q]) (by simp [results, Try.results15, go_sem, D6, E6]) rfl ?_
    obtain ⟨cs', S9⟩ := HS6.out.put4 (.slice A3 n3 c3) (.int .i64 a) (.bool z) (.bool s)
    exact ⟨Ap, np, cp, ps, A3, n3, c3, rs, a, z, s, q, rfl, hnp, hn3, hq, own_less S9.op (by omega), own_less S9.ow (by omega), S9.bel⟩
end Go.Proofs.Ytlahpnihnpmgoaa
