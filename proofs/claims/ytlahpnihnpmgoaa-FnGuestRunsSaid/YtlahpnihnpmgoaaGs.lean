/- Contract of stepGuest: a step of a guest. The registers are four words, the instruction is valid. -/
import Derived.Test.YtlahpnihnpmgoaaLs
import Derived.Deep.CutBlock
import Derived.IntWalk
namespace Go.Proofs.Ytlahpnihnpmgoaa
open Go.RowKit
set_option linter.unusedVariables false
set_option linter.unusedSimpArgs false
attribute [local go_sem ↓] Go.wp_at_zero Go.wp_at_succ

theorem sep_cast {W0 w : World} {L M : List Thing} (S : Sep W0 w L) (h : L = M) : Hid (Sep W0 w M) := by subst h; exact S
theorem sep_castp {W0 w : World} {L M : List Thing} (S : Sep W0 w L) (h : L.Perm M) : Hid (Sep W0 w M) := S.perm h
/-- what lies in memory in the midst of a step -/
abbrev stM (w : World) (A : Option Addr) (c j : Nat) (z s : Bool) (A2 : Option Addr) (c2 : Nat) (rs : List Int) (g5 : Nat) (a2 : Int) (z2 s2 : Bool) (g6 : Nat) (o : Int) (ja jb : Nat) (n : Int) : List Thing :=
  [bx 37 4 w.heap.size [.slice A 4 c, .int .i64 j, .bool z, .bool s], bx 37 4 (w.heap.size + 1) [.slice none 0 0, .int .i64 0, .bool false, .bool false], ti A2 4 c2 rs, bx 37 4 g5 [.slice A2 4 c2, .int .i64 a2, .bool z2, .bool s2], bx 52 4 g6 [.int .i64 o, .int .i64 (ja : Int), .int .i64 (jb : Int), .int .i64 n]]
theorem perm_b {α : Type} (x y z : α) : [x, y, z].Perm [x, z, y] := .cons _ (.swap _ _ _)
theorem perm_c {α : Type} (x y z : α) : [x, y, z].Perm [y, x, z] := .swap _ _ _
theorem perm_d {α : Type} (x y z : α) : [x, y, z].Perm [z, x, y] := (perm_b x y z).trans (perm_c x z y)
theorem perm_e {α : Type} (x y z : α) : [x, y, z].Perm [y, z, x] := (perm_c x y z).trans (perm_b y x z)
theorem perm_f {α : Type} (x y z : α) : [x, y, z].Perm [z, y, x] := (perm_c x y z).trans ((perm_b y x z).trans (perm_c y z x))
theorem perm2 {α : Type} {a b : α} {l m : List α} (h : l.Perm m) : (a :: b :: l).Perm (a :: b :: m) := .cons _ (.cons _ h)

/-- the cells of an instruction of the program, later -/
theorem prog_at {w w2 : World} {b of np j : Nat} {ps : List RInstruction} {o n : Int} {ja jb : Nat} (hp : Rd w 4 (some ⟨b, of, none⟩) np (J cInstruction ps)) (hb : Below w.heap.size w w2) (hj : j < np) (hx : ps[j]? = some ⟨o, ja, jb, n⟩) :
    w2.cell? ⟨b, of + j * 4, none⟩ = some (.int .i64 o) ∧ w2.cell? ⟨b, of + j * 4 + 1, none⟩ = some (.int .i64 (ja : Int)) ∧ w2.cell? ⟨b, of + j * 4 + 2, none⟩ = some (.int .i64 (jb : Int)) ∧ w2.cell? ⟨b, of + j * 4 + 3, none⟩ = some (.int .i64 n) := by
  obtain ⟨b', of', x', e, hbl, hxk, p0, p1, p2, p3⟩ := atInstruction (hp.keep hb) hj
  cases e
  obtain rfl := Option.some.inj (hxk.out.symm.trans hx)
  exact ⟨p0, p1, p2, p3⟩
set_option maxRecDepth 100000 in
set_option maxHeartbeats 8000000 in
theorem stepGuest_any (Ap : Option Addr) (np cp : Nat) (ps : List RInstruction) (A : Option Addr) (c : Nat) (rs : List Int) (j : Nat) (z s : Bool) (o n : Int) (ja jb : Nat) (xa xb : Int) (w : World) (hp : Rd w 4 Ap np (J cInstruction ps)) (hr : Rd w 1 A 4 (I rs)) (hnp : np ≤ 1048576) (hj : j < np) (hx : Hid (ps[j]? = some ⟨o, ja, jb, n⟩))
    (ha : ja < 4) (hb : jb < 4) (hra : Hid (rs[ja]? = some xa)) (hrb : Hid (rs[jb]? = some xb)) (ha0 : 0 ≤ xa) (ha1 : xa ≤ 65535) (hb0 : 0 ≤ xb) (hb1 : xb ≤ 65535) (hn0 : 0 ≤ n) (hn1 : n ≤ 65535) (hn2 : Hid (o = 6 → n ≤ 15)) (ho0 : 0 ≤ o) (ho9 : o ≤ 9) :
    Calls Try.prog 40 #[.slice Ap np cp, regV A 4 c j z s] w fun e w' => ∃ A' c', e = .returned (regV A' 4 c' (stG np ⟨o, ja, jb, n⟩ rs j z).a (stG np ⟨o, ja, jb, n⟩ rs j z).z (stG np ⟨o, ja, jb, n⟩ rs j z).s) ∧ Own w' w.heap.size (ti A' 4 c' (stG np ⟨o, ja, jb, n⟩ rs j z).rs) ∧ Below w.heap.size w w' := by
  have S0 := (Sep.start w).new (below_alloc w _) (own_bx w 37 4 #[.slice A 4 c, .int .i64 j, .bool z, .bool s] rfl)
  have S1 := (S0.new (below_alloc _ _) (own_bx _ 37 4 #[.slice none 0 0, .int .i64 0, .bool false, .bool false] rfl))
  simp only [List.nil_append, List.cons_append, size_alloc] at S1
  have HS1 := Lib.hid S1
  clear S0 S1
  have C0 := own_box (HS1.out.own 0 _ rfl)
  have Z0 := own_lt (HS1.out.own 0 _ rfl)
  have HR := Lib.hid hr
  have hr' := Lib.hid hr
  clear hr
  go_enter Try.func40, Try.ntmps40
  go_upto_region 1 with (fail)
  go_cut [5, 6, 7] from 10 to 19 (fun x5 x6 x7 wx => ∃ (g5 g6 : Nat) (A2 : Option Addr) (c2 : Nat), x5 = .pointer (some ⟨g5, 0, none⟩) ∧ x6 = .pointer (some ⟨g6, 0, none⟩) ∧ x7 = .int .i64 ((j : Int) + 1) ∧ Hid (Sep w wx (stM w A c j z s A2 c2 rs g5 j z s g6 o ja jb n)))
  case first =>
    have S1 := HS1.out.below (Below.drew (Below.refl _ _))
    have hp0 := Lib.hid hp
    obtain ⟨b, of, x', rfl, hbl, hxk, p0, p1, p2, p3⟩ := atInstruction (hp.keep HS1.out.bel) hj
    obtain rfl := Option.some.inj (hxk.out.symm.trans hx.out)
    dsimp only at p0 p1 p2 p3
    have h0 : (0 : Int) ≤ (j : Int) := by omega
    have h1 : (j : Int) < (np : Int) := by omega
    have dc0 : (((w.alloc (.cells #[.slice A 4 c, .int .i64 j, .bool z, .bool s] 37)).alloc (.cells #[.slice none 0 0, .int .i64 0, .bool false, .bool false] 37))).cell? ⟨w.heap.size, 0, none⟩ = some (.slice A 4 c) := C0 0
    have c0 : (((w.alloc (.cells #[.slice A 4 c, .int .i64 j, .bool z, .bool s] 37)).alloc (.cells #[.slice none 0 0, .int .i64 0, .bool false, .bool false] 37)).drew).cell? ⟨w.heap.size, 0, none⟩ = some (.slice A 4 c) := dc0
    have dc1 : (((w.alloc (.cells #[.slice A 4 c, .int .i64 j, .bool z, .bool s] 37)).alloc (.cells #[.slice none 0 0, .int .i64 0, .bool false, .bool false] 37))).cell? ⟨w.heap.size, 1, none⟩ = some (.int .i64 (j : Int)) := C0 1
    have c1 : (((w.alloc (.cells #[.slice A 4 c, .int .i64 j, .bool z, .bool s] 37)).alloc (.cells #[.slice none 0 0, .int .i64 0, .bool false, .bool false] 37)).drew).cell? ⟨w.heap.size, 1, none⟩ = some (.int .i64 (j : Int)) := dc1
    have dc2 : (((w.alloc (.cells #[.slice A 4 c, .int .i64 j, .bool z, .bool s] 37)).alloc (.cells #[.slice none 0 0, .int .i64 0, .bool false, .bool false] 37))).cell? ⟨w.heap.size, 2, none⟩ = some (.bool z) := C0 2
    have c2 : (((w.alloc (.cells #[.slice A 4 c, .int .i64 j, .bool z, .bool s] 37)).alloc (.cells #[.slice none 0 0, .int .i64 0, .bool false, .bool false] 37)).drew).cell? ⟨w.heap.size, 2, none⟩ = some (.bool z) := dc2
    have dc3 : (((w.alloc (.cells #[.slice A 4 c, .int .i64 j, .bool z, .bool s] 37)).alloc (.cells #[.slice none 0 0, .int .i64 0, .bool false, .bool false] 37))).cell? ⟨w.heap.size, 3, none⟩ = some (.bool s) := C0 3
    have c3 : (((w.alloc (.cells #[.slice A 4 c, .int .i64 j, .bool z, .bool s] 37)).alloc (.cells #[.slice none 0 0, .int .i64 0, .bool false, .bool false] 37)).drew).cell? ⟨w.heap.size, 3, none⟩ = some (.bool s) := dc3
    have de0 : (((w.alloc (.cells #[.slice A 4 c, .int .i64 j, .bool z, .bool s] 37)).alloc (.cells #[.slice none 0 0, .int .i64 0, .bool false, .bool false] 37))).cell? ⟨b, of + j * 4, none⟩ = some (.int .i64 o) := p0
    have e0 : (((w.alloc (.cells #[.slice A 4 c, .int .i64 j, .bool z, .bool s] 37)).alloc (.cells #[.slice none 0 0, .int .i64 0, .bool false, .bool false] 37)).drew).cell? ⟨b, of + j * 4, none⟩ = some (.int .i64 o) := de0
    have de1 : (((w.alloc (.cells #[.slice A 4 c, .int .i64 j, .bool z, .bool s] 37)).alloc (.cells #[.slice none 0 0, .int .i64 0, .bool false, .bool false] 37))).cell? ⟨b, of + j * 4 + 1, none⟩ = some (.int .i64 (ja : Int)) := p1
    have e1 : (((w.alloc (.cells #[.slice A 4 c, .int .i64 j, .bool z, .bool s] 37)).alloc (.cells #[.slice none 0 0, .int .i64 0, .bool false, .bool false] 37)).drew).cell? ⟨b, of + j * 4 + 1, none⟩ = some (.int .i64 (ja : Int)) := de1
    have de2 : (((w.alloc (.cells #[.slice A 4 c, .int .i64 j, .bool z, .bool s] 37)).alloc (.cells #[.slice none 0 0, .int .i64 0, .bool false, .bool false] 37))).cell? ⟨b, of + j * 4 + 2, none⟩ = some (.int .i64 (jb : Int)) := p2
    have e2 : (((w.alloc (.cells #[.slice A 4 c, .int .i64 j, .bool z, .bool s] 37)).alloc (.cells #[.slice none 0 0, .int .i64 0, .bool false, .bool false] 37)).drew).cell? ⟨b, of + j * 4 + 2, none⟩ = some (.int .i64 (jb : Int)) := de2
    have de3 : (((w.alloc (.cells #[.slice A 4 c, .int .i64 j, .bool z, .bool s] 37)).alloc (.cells #[.slice none 0 0, .int .i64 0, .bool false, .bool false] 37))).cell? ⟨b, of + j * 4 + 3, none⟩ = some (.int .i64 n) := p3
    have e3 : (((w.alloc (.cells #[.slice A 4 c, .int .i64 j, .bool z, .bool s] 37)).alloc (.cells #[.slice none 0 0, .int .i64 0, .bool false, .bool false] 37)).drew).cell? ⟨b, of + j * 4 + 3, none⟩ = some (.int .i64 n) := de3
    have HP := Lib.hid (And.intro dc0 (And.intro dc1 (And.intro dc2 (And.intro dc3 (And.intro de0 (And.intro de1 (And.intro de2 de3)))))))
    clear C0 p0 p1 p2 p3
    have nb : b < w.heap.size + 1 + 1 := by have := hbl; simp only [size_alloc] at this; exact this
    go_region_held3 (fun w' => w'.cell? ⟨w.heap.size, 0, none⟩ = some (.slice A 4 c) ∧ w'.cell? ⟨w.heap.size, 1, none⟩ = some (.int .i64 (j : Int)) ∧ w'.cell? ⟨w.heap.size, 2, none⟩ = some (.bool z) ∧ w'.cell? ⟨w.heap.size, 3, none⟩ = some (.bool s) ∧ w'.cell? ⟨b, of + j * 4, none⟩ = some (.int .i64 o) ∧ w'.cell? ⟨b, of + j * 4 + 1, none⟩ = some (.int .i64 (ja : Int)) ∧ w'.cell? ⟨b, of + j * 4 + 2, none⟩ = some (.int .i64 (jb : Int)) ∧ w'.cell? ⟨b, of + j * 4 + 3, none⟩ = some (.int .i64 n))
      (first | (with_reducible exact ⟨q0, q1, q2, q3, q4, q5, q6, q7⟩) | (with_reducible exact ⟨c0, c1, c2, c3, e0, e1, e2, e3⟩) | (refine ⟨?_, ?_, ?_, ?_, ?_, ?_, ?_, ?_⟩ <;> (repeat (first | (with_reducible exact q0) | (with_reducible exact q1) | (with_reducible exact q2) | (with_reducible exact q3) | (with_reducible exact q4) | (with_reducible exact q5) | (with_reducible exact q6) | (with_reducible exact q7) | (with_reducible exact c0) | (with_reducible exact c1) | (with_reducible exact c2) | (with_reducible exact c3) | (with_reducible exact e0) | (with_reducible exact e1) | (with_reducible exact e2) | (with_reducible exact e3) | (with_reducible exact dc0) | (with_reducible exact dc1) | (with_reducible exact dc2) | (with_reducible exact dc3) | (with_reducible exact de0) | (with_reducible exact de1) | (with_reducible exact de2) | (with_reducible exact de3) | (with_reducible refine kset (by omega) ?_) | (with_reducible refine kalloc ?_) | (with_reducible refine kdrew ?_))))) (first
        | (go_at_call 39; (first | (have Sa := S1; refine (newRegisters_any A 4 c rs j z s _ (HR.out.keep Sa.bel) (by omega)).mono ?_) | (have Sa := (S1).new (below_alloc _ _) (own_bx _ 37 4 #[.slice none 0 0, .int .i64 0, .bool false, .bool false] rfl); refine (newRegisters_any A 4 c rs j z s _ (HR.out.keep Sa.bel) (by omega)).mono ?_) | (have Sa := (S1).new (below_alloc _ _) (own_bx _ 52 4 #[.int .i64 0, .int .i64 0, .int .i64 0, .int .i64 0] rfl); refine (newRegisters_any A 4 c rs j z s _ (HR.out.keep Sa.bel) (by omega)).mono ?_) | (have Sa := ((S1).new (below_alloc _ _) (own_bx _ 37 4 #[.slice none 0 0, .int .i64 0, .bool false, .bool false] rfl)).new (below_alloc _ _) (own_bx _ 52 4 #[.int .i64 0, .int .i64 0, .int .i64 0, .int .i64 0] rfl); refine (newRegisters_any A 4 c rs j z s _ (HR.out.keep Sa.bel) (by omega)).mono ?_) | (have Sa := ((S1).new (below_alloc _ _) (own_bx _ 52 4 #[.int .i64 0, .int .i64 0, .int .i64 0, .int .i64 0] rfl)).new (below_alloc _ _) (own_bx _ 37 4 #[.slice none 0 0, .int .i64 0, .bool false, .bool false] rfl); refine (newRegisters_any A 4 c rs j z s _ (HR.out.keep Sa.bel) (by omega)).mono ?_)); rintro e w2 ⟨A2, c2, rfl, ho2, hb2⟩; have S2 := Sa.new hb2 ho2; have q0 : w2.cell? ⟨w.heap.size, 0, none⟩ = some (.slice A 4 c) := own_box (S2.own 0 _ rfl) 0; have q1 : w2.cell? ⟨w.heap.size, 1, none⟩ = some (.int .i64 (j : Int)) := own_box (S2.own 0 _ rfl) 1; have q2 : w2.cell? ⟨w.heap.size, 2, none⟩ = some (.bool z) := own_box (S2.own 0 _ rfl) 2; have q3 : w2.cell? ⟨w.heap.size, 3, none⟩ = some (.bool s) := own_box (S2.own 0 _ rfl) 3; obtain ⟨q4, q5, q6, q7⟩ := prog_at hp0.out S2.bel hj hx.out; have Y2 := own_lt (S2.own 0 _ rfl); (first | (have A5 := own_box (S2.own 2 _ rfl); have F5 := own_free (S2.own 2 _ rfl); have Y5 := own_lt (S2.own 2 _ rfl); (try simp only [hdrew, size_alloc] at A5 F5 Y5)) | skip); (first | (have A6 := own_box (S2.own 3 _ rfl); have F6 := own_free (S2.own 3 _ rfl); have Y6 := own_lt (S2.own 3 _ rfl); (try simp only [hdrew, size_alloc] at A6 F6 Y6)) | skip)))
    all_goals simp only [hdrew, size_alloc, List.cons_append, List.nil_append] at S2
    all_goals have HS2 := Lib.hid S2
    all_goals clear S2
    all_goals
      go_wp2_with fail
      go_meet
      rw [show IntKind.i64.wrap ((j : Int) + 1) = (j : Int) + 1 from IntWalk.i64_in _ (by omega)]
      refine ⟨_, _, A2, c2, rfl, rfl, rfl, ?_⟩
      first
        | (have Sf1 := (HS2.out).new (below_alloc _ _) (own_bx _ 37 4 #[.slice A2 4 c2, .int .i64 j, .bool z, .bool s] rfl); have Sf2 := (Sf1).new (below_alloc _ _) (own_bx _ 52 4 #[.int .i64 o, .int .i64 (ja : Int), .int .i64 (jb : Int), .int .i64 n] rfl); simp only [putAll, size_alloc, World.size_setCell, List.cons_append, List.nil_append, List.set_cons_succ, List.set_cons_zero, Nat.zero_add, Nat.reduceAdd] at Sf2; with_reducible exact Lib.hid Sf2)
        | (have Sf1 := (HS2.out).new (below_alloc _ _) (own_bx _ 52 4 #[.int .i64 o, .int .i64 (ja : Int), .int .i64 (jb : Int), .int .i64 n] rfl); have Sf2 := (Sf1).new (below_alloc _ _) (own_bx _ 37 4 #[.slice A2 4 c2, .int .i64 j, .bool z, .bool s] rfl); simp only [putAll, size_alloc, World.size_setCell, List.cons_append, List.nil_append, List.set_cons_succ, List.set_cons_zero, Nat.zero_add, Nat.reduceAdd] at Sf2; with_reducible refine sep_castp Sf2 ?_; exact perm2 (perm_b _ _ _))
        | (have Pf1 := own_putAll [.slice A2 4 c2, .int .i64 j, .bool z, .bool s] _ _ 0 ((HS2.out).own 2 _ rfl); have Sf1 := (HS2.out).write 2 rfl Pf1.2 _ Pf1.1; have Sf2 := (Sf1).new (below_alloc _ _) (own_bx _ 52 4 #[.int .i64 o, .int .i64 (ja : Int), .int .i64 (jb : Int), .int .i64 n] rfl); simp only [putAll, size_alloc, World.size_setCell, List.cons_append, List.nil_append, List.set_cons_succ, List.set_cons_zero, Nat.zero_add, Nat.reduceAdd] at Sf2; with_reducible refine sep_castp Sf2 ?_; exact perm2 (perm_c _ _ _))
        | (have Pf1 := own_putAll [.int .i64 o, .int .i64 (ja : Int), .int .i64 (jb : Int), .int .i64 n] _ _ 0 ((HS2.out).own 2 _ rfl); have Sf1 := (HS2.out).write 2 rfl Pf1.2 _ Pf1.1; have Sf2 := (Sf1).new (below_alloc _ _) (own_bx _ 37 4 #[.slice A2 4 c2, .int .i64 j, .bool z, .bool s] rfl); simp only [putAll, size_alloc, World.size_setCell, List.cons_append, List.nil_append, List.set_cons_succ, List.set_cons_zero, Nat.zero_add, Nat.reduceAdd] at Sf2; with_reducible refine sep_castp Sf2 ?_; exact perm2 (perm_e _ _ _))
        | (have Pf1 := own_putAll [.slice A2 4 c2, .int .i64 j, .bool z, .bool s] _ _ 0 ((HS2.out).own 2 _ rfl); have Sf1 := (HS2.out).write 2 rfl Pf1.2 _ Pf1.1; have Pf2 := own_putAll [.int .i64 o, .int .i64 (ja : Int), .int .i64 (jb : Int), .int .i64 n] _ _ 0 ((Sf1).own 3 _ rfl); have Sf2 := (Sf1).write 3 rfl Pf2.2 _ Pf2.1; simp only [putAll, size_alloc, World.size_setCell, List.cons_append, List.nil_append, List.set_cons_succ, List.set_cons_zero, Nat.zero_add, Nat.reduceAdd] at Sf2; with_reducible refine sep_castp Sf2 ?_; exact perm2 (perm_d _ _ _))
        | (have Pf1 := own_putAll [.int .i64 o, .int .i64 (ja : Int), .int .i64 (jb : Int), .int .i64 n] _ _ 0 ((HS2.out).own 3 _ rfl); have Sf1 := (HS2.out).write 3 rfl Pf1.2 _ Pf1.1; have Pf2 := own_putAll [.slice A2 4 c2, .int .i64 j, .bool z, .bool s] _ _ 0 ((Sf1).own 2 _ rfl); have Sf2 := (Sf1).write 2 rfl Pf2.2 _ Pf2.1; simp only [putAll, size_alloc, World.size_setCell, List.cons_append, List.nil_append, List.set_cons_succ, List.set_cons_zero, Nat.zero_add, Nat.reduceAdd] at Sf2; with_reducible refine sep_castp Sf2 ?_; exact perm2 (perm_d _ _ _))
        | (have Pf1 := own_putAll [.slice A2 4 c2, .int .i64 j, .bool z, .bool s] _ _ 0 ((HS2.out).own 3 _ rfl); have Sf1 := (HS2.out).write 3 rfl Pf1.2 _ Pf1.1; have Pf2 := own_putAll [.int .i64 o, .int .i64 (ja : Int), .int .i64 (jb : Int), .int .i64 n] _ _ 0 ((Sf1).own 2 _ rfl); have Sf2 := (Sf1).write 2 rfl Pf2.2 _ Pf2.1; simp only [putAll, size_alloc, World.size_setCell, List.cons_append, List.nil_append, List.set_cons_succ, List.set_cons_zero, Nat.zero_add, Nat.reduceAdd] at Sf2; with_reducible refine sep_castp Sf2 ?_; exact perm2 (perm_f _ _ _))
        | (have Pf1 := own_putAll [.int .i64 o, .int .i64 (ja : Int), .int .i64 (jb : Int), .int .i64 n] _ _ 0 ((HS2.out).own 2 _ rfl); have Sf1 := (HS2.out).write 2 rfl Pf1.2 _ Pf1.1; have Pf2 := own_putAll [.slice A2 4 c2, .int .i64 j, .bool z, .bool s] _ _ 0 ((Sf1).own 3 _ rfl); have Sf2 := (Sf1).write 3 rfl Pf2.2 _ Pf2.1; simp only [putAll, size_alloc, World.size_setCell, List.cons_append, List.nil_append, List.set_cons_succ, List.set_cons_zero, Nat.zero_add, Nat.reduceAdd] at Sf2; with_reducible refine sep_castp Sf2 ?_; exact perm2 (perm_f _ _ _))
  case rest =>
    obtain ⟨g5, g6, A2, c2, rfl, rfl, rfl, HS5⟩ := hcut
    clear HS1 C0 Z0
    have C0 := own_box (HS5.out.own 0 _ rfl)
    have C6 := own_box (HS5.out.own 4 _ rfl)
    have hr5 := Lib.hid (hr'.out.keep HS5.out.bel)
    go_wp2_with fail
    refine (valueOf_any o n ja jb A c rs xa xb _ hr5.out ha hb hra hrb ha0 ha1 hb0 hb1 hn0 hn1 hn2.out).mono ?_
    rintro e w7 ⟨rfl, hb7⟩
    have HS7 := Lib.hid (HS5.out.below hb7)
    clear hb7 hr5 C0 C6 HS5
    obtain ⟨v, hv⟩ : ∃ v, v = vF o n xa xb := ⟨_, rfl⟩
    have hG : stG np ⟨o, ja, jb, n⟩ rs j z = ⟨if puB o then rs.set ja v else rs, if enB np ⟨o, ja, jb, n⟩ j z then j else nxI ⟨o, ja, jb, n⟩ j z, if puB o then v == 0 else z, enB np ⟨o, ja, jb, n⟩ j z || o == 9⟩ := by
      unfold stG
      rw [stV_eq hra.out hrb.out, hv]
      simp
    have HG := Lib.hid hG
    rw [← hv]
    clear hG hv
    obtain ⟨pb, hpb⟩ : ∃ pb, pb = puB o := ⟨_, rfl⟩
    rw [← hpb] at HG
    rw [← hpb]
    have HPB := Lib.hid hpb
    clear hpb
    go_upto_if 27 with (fail)
    go_cut [5] from 27 to 36 (fun x5 wx => x5 = .pointer (some ⟨g5, 0, none⟩) ∧ Hid (Sep w wx (stM w A c j z s A2 c2 (if pb then rs.set ja v else rs) g5 j (if pb then v == 0 else z) s g6 o ja jb n)))
    case first =>
      cases pb
      · go_wp2
        go_meet
        exact ⟨rfl, HS7⟩
      · rw [show selI true v = v from rfl]
        have hA2 := own_someS (HS7.out.own 2 _ rfl) (by show 0 < 4; omega)
        obtain ⟨gA, rfl, _, hgl⟩ := hA2
        have cA : w7.cell? ⟨gA, ja, none⟩ = some (.int .i64 xa) := by
          rw [World.ownsRow.cellAt (HS7.out.own 2 _ rfl) ja (by show ja < 4 * 1; omega)]
          simp [I, hra.out]
        have fA := World.ownsRow.frozenAt (HS7.out.own 2 _ rfl) ja
        have C5 := own_box (HS7.out.own 3 _ rfl)
        have F5 := own_free (HS7.out.own 3 _ rfl)
        have C6 := own_box (HS7.out.own 4 _ rfl)
        have hs := World.ownsRow.stored (HS7.out.own 2 _ rfl) ja (.int .i64 v)
        rw [I_set] at hs
        have S8 := HS7.out.write 2 rfl hs.2 _ hs.1
        have hs2 := World.ownsRow.stored (S8.own 3 _ rfl) 2 (.bool (v == 0))
        have HS9 := Lib.hid (S8.write 3 rfl hs2.2 _ hs2.1)
        have C5' := own_box (S8.own 3 _ rfl)
        have F5' := own_free (S8.own 3 _ rfl)
        have k0 : (0 : Int) ≤ (ja : Int) := by omega
        have k1 : (ja : Int) < 4 := by omega
        clear hs hs2 S8
        go_wp2
        go_meet
        exact ⟨rfl, HS9⟩
    case rest =>
      obtain ⟨rfl, HS6⟩ := hcut
      clear HS7
      obtain ⟨z2, hz2⟩ : ∃ z2, z2 = (if pb then v == 0 else z) := ⟨_, rfl⟩
      obtain ⟨r2, hr2⟩ : ∃ r2, r2 = (if pb then rs.set ja v else rs) := ⟨_, rfl⟩
      rw [← hz2] at HS6 HG
      rw [← hr2] at HS6 HG
      clear hz2 hr2
      have C0 := own_box (HS6.out.own 0 _ rfl)
      have C5 := own_box (HS6.out.own 3 _ rfl)
      have F5 := own_free (HS6.out.own 3 _ rfl)
      have C6 := own_box (HS6.out.own 4 _ rfl)
      by_cases h0 : o = 0
      · subst h0
        have HGs := Lib.hid (show stG np ⟨0, ja, jb, n⟩ rs j z = ⟨r2, j, z2, true⟩ by rw [HG.out]; rfl)
        have hs := World.ownsRow.stored (HS6.out.own 3 _ rfl) 3 (.bool true)
        have HS8 := Lib.hid (HS6.out.write 3 rfl hs.2 _ hs.1)
        clear hs HG HS6
        go_upto_region 7 with (fail)
        obtain ⟨w9, hw9⟩ : ∃ w9, w9 = wc.setCell ⟨g5, 3, none⟩ (.bool true) := ⟨_, rfl⟩
        rw [← hw9]
        have HS9 : Hid (Sep w w9 (stM w A c j z s A2 c2 r2 g5 j z2 true g6 0 ja jb n)) := by rw [hw9]; exact HS8
        clear hw9 HS8 C0 C6 C5 F5
        have C5 := own_box (HS9.out.own 3 _ rfl)
        have C1 := own_box (HS9.out.own 1 _ rfl)
        have F1 := own_free (HS9.out.own 1 _ rfl)
        have P8 := own_putAll [.slice A2 4 c2, .int .i64 j, .bool z2, .bool true] _ _ 0 (HS9.out.own 1 _ rfl)
        have HS10 := Lib.hid (HS9.out.write 1 rfl P8.2 _ P8.1)
        clear P8 HS9
        go_wp2
        refine bodyPost_ret (v := regV A2 4 c2 j z2 true) (by simp [results, Try.results40, go_sem, C1, F1]) rfl ?_
        rw [HGs.out]
        exact ⟨_, _, rfl, HS10.out.own 2 _ rfl, HS10.out.bel⟩
      · have t0 : (o == 0) = false := by simp [h0]
        go_upto_region 8 with (fail)
        obtain ⟨w8, hw8⟩ : ∃ w8, w8 = wc := ⟨_, rfl⟩
        rw [← hw8] at HS6 C0 C5 F5 C6 ⊢
        clear hw8
        go_cut [43] from 44 to 55 (fun t wx => t = .bool (o == 7 || (o == 8 && z)) ∧ w8 = wx)
        case first =>
          by_cases h7 : o = 7
          · subst h7
            go_wp2
            go_meet
            exact ⟨rfl, rfl⟩
          · have t7 : (o == 7) = false := by simp [h7]
            have HT7 := Lib.hid t7
            by_cases h8 : o = 8
            · subst h8
              cases z
              all_goals
                go_wp2
                go_meet
                exact ⟨rfl, rfl⟩
            · have t8 : (o == 8) = false := by simp [h8]
              have HT8 := Lib.hid t8
              go_wp2
              go_meet
              exact ⟨by rw [HT7.out, HT8.out]; rfl, rfl⟩
        case rest =>
        obtain ⟨rfl, rfl⟩ := hcut
        have HT0 := Lib.hid t0
        obtain ⟨jm, hjm⟩ : ∃ jm, jm = (o == 7 || (o == 8 && z)) := ⟨_, rfl⟩
        rw [← hjm]
        have hnx : nxI ⟨o, ja, jb, n⟩ j z = if jm then n else (j : Int) + 1 := by rw [hjm]; rfl
        have HN := Lib.hid hnx
        cases jm
        · clear hnx
          have hn9 : nxI ⟨o, ja, jb, n⟩ j z = (j : Int) + 1 := HN.out
          clear HN
          have HN := Lib.hid hn9
          clear hn9 hjm
          by_cases h9 : o = 9
          · subst h9
            clear t0
            by_cases hq : (np : Int) ≤ (j : Int) + 1
            · have HE := Lib.hid (show enB np ⟨9, ja, jb, n⟩ j z = true by unfold enB; rw [HN.out]; simp [hq])
              have HGs := Lib.hid (show stG np ⟨9, ja, jb, n⟩ rs j z = ⟨r2, j, z2, true⟩ by rw [HG.out, HE.out]; rfl)
              have hs := World.ownsRow.stored (HS6.out.own 3 _ rfl) 3 (.bool true)
              have HS8 := Lib.hid (HS6.out.write 3 rfl hs.2 _ hs.1)
              have hq2 : ¬ (j : Int) + 1 < (np : Int) := by omega
              clear hs HG HS6
              go_upto_region 13 with (fail)
              obtain ⟨w9, hw9⟩ : ∃ w9, w9 = w8.setCell ⟨g5, 3, none⟩ (.bool true) := ⟨_, rfl⟩
              rw [← hw9]
              have HS9 : Hid (Sep w w9 (stM w A c j z s A2 c2 r2 g5 (j) z2 true g6 9 ja jb n)) := by rw [hw9]; exact HS8
              clear hw9 HS8 C0 C6 C5 F5
              have C5 := own_box (HS9.out.own 3 _ rfl)
              have C1 := own_box (HS9.out.own 1 _ rfl)
              have F1 := own_free (HS9.out.own 1 _ rfl)
              have P8 := own_putAll [.slice A2 4 c2, .int .i64 (j), .bool z2, .bool true] _ _ 0 (HS9.out.own 1 _ rfl)
              have HS10 := Lib.hid (HS9.out.write 1 rfl P8.2 _ P8.1)
              clear P8 HS9
              go_wp2
              refine bodyPost_ret (v := regV A2 4 c2 (j) z2 true) (by simp [results, Try.results40, go_sem, C1, F1]) rfl ?_
              rw [HGs.out]
              exact ⟨_, _, rfl, HS10.out.own 2 _ rfl, HS10.out.bel⟩
            · have HE := Lib.hid (show enB np ⟨9, ja, jb, n⟩ j z = false by unfold enB; rw [HN.out, HT0.out]; simp; omega)
              have HGs := Lib.hid (show stG np ⟨9, ja, jb, n⟩ rs j z = ⟨r2, (j : Int) + 1, z2, true⟩ by rw [HG.out, HE.out, HN.out]; rfl)
              have hs := World.ownsRow.stored (HS6.out.own 3 _ rfl) 3 (.bool true)
              have S7 := HS6.out.write 3 rfl hs.2 _ hs.1
              have hs' := World.ownsRow.stored (S7.own 3 _ rfl) 1 (.int .i64 ((j : Int) + 1))
              have HS8 := Lib.hid (S7.write 3 rfl hs'.2 _ hs'.1)
              have C5' := own_box (S7.own 3 _ rfl)
              have F5' := own_free (S7.own 3 _ rfl)
              have hq2 : (j : Int) + 1 < (np : Int) := by omega
              clear S7 hs hs' HG HS6
              go_upto_region 13 with (fail)
              obtain ⟨w9, hw9⟩ : ∃ w9, w9 = (w8.setCell ⟨g5, 3, none⟩ (.bool true)).setCell ⟨g5, 1, none⟩ (.int .i64 ((j : Int) + 1)) := ⟨_, rfl⟩
              rw [← hw9]
              have HS9 : Hid (Sep w w9 (stM w A c j z s A2 c2 r2 g5 ((j : Int) + 1) z2 true g6 9 ja jb n)) := by rw [hw9]; exact HS8
              clear hw9 HS8 C0 C6 C5 F5 C5' F5'
              have C5 := own_box (HS9.out.own 3 _ rfl)
              have C1 := own_box (HS9.out.own 1 _ rfl)
              have F1 := own_free (HS9.out.own 1 _ rfl)
              have P8 := own_putAll [.slice A2 4 c2, .int .i64 ((j : Int) + 1), .bool z2, .bool true] _ _ 0 (HS9.out.own 1 _ rfl)
              have HS10 := Lib.hid (HS9.out.write 1 rfl P8.2 _ P8.1)
              clear P8 HS9
              go_wp2
              refine bodyPost_ret (v := regV A2 4 c2 ((j : Int) + 1) z2 true) (by simp [results, Try.results40, go_sem, C1, F1]) rfl ?_
              rw [HGs.out]
              exact ⟨_, _, rfl, HS10.out.own 2 _ rfl, HS10.out.bel⟩
          · have t9 : (o == 9) = false := by simp [h9]
            have HT9 := Lib.hid t9
            by_cases hq : (np : Int) ≤ (j : Int) + 1
            · have HE := Lib.hid (show enB np ⟨o, ja, jb, n⟩ j z = true by unfold enB; rw [HN.out]; simp [hq])
              have HGs := Lib.hid (show stG np ⟨o, ja, jb, n⟩ rs j z = ⟨r2, j, z2, true⟩ by rw [HG.out, HE.out]; rfl)
              have hs := World.ownsRow.stored (HS6.out.own 3 _ rfl) 3 (.bool true)
              have HS8 := Lib.hid (HS6.out.write 3 rfl hs.2 _ hs.1)
              have hq2 : ¬ (j : Int) + 1 < (np : Int) := by omega
              clear hs HG HS6
              go_upto_region 13 with (fail)
              obtain ⟨w9, hw9⟩ : ∃ w9, w9 = w8.setCell ⟨g5, 3, none⟩ (.bool true) := ⟨_, rfl⟩
              rw [← hw9]
              have HS9 : Hid (Sep w w9 (stM w A c j z s A2 c2 r2 g5 (j) z2 true g6 o ja jb n)) := by rw [hw9]; exact HS8
              clear hw9 HS8 C0 C6 C5 F5
              have C5 := own_box (HS9.out.own 3 _ rfl)
              have C1 := own_box (HS9.out.own 1 _ rfl)
              have F1 := own_free (HS9.out.own 1 _ rfl)
              have P8 := own_putAll [.slice A2 4 c2, .int .i64 (j), .bool z2, .bool true] _ _ 0 (HS9.out.own 1 _ rfl)
              have HS10 := Lib.hid (HS9.out.write 1 rfl P8.2 _ P8.1)
              clear P8 HS9
              go_wp2
              refine bodyPost_ret (v := regV A2 4 c2 (j) z2 true) (by simp [results, Try.results40, go_sem, C1, F1]) rfl ?_
              rw [HGs.out]
              exact ⟨_, _, rfl, HS10.out.own 2 _ rfl, HS10.out.bel⟩
            · have HE := Lib.hid (show enB np ⟨o, ja, jb, n⟩ j z = false by unfold enB; rw [HN.out, HT0.out]; simp; omega)
              have HGs := Lib.hid (show stG np ⟨o, ja, jb, n⟩ rs j z = ⟨r2, (j : Int) + 1, z2, false⟩ by rw [HG.out, HE.out, HN.out, HT9.out]; rfl)
              have hs := World.ownsRow.stored (HS6.out.own 3 _ rfl) 3 (.bool false)
              have S7 := HS6.out.write 3 rfl hs.2 _ hs.1
              have hs' := World.ownsRow.stored (S7.own 3 _ rfl) 1 (.int .i64 ((j : Int) + 1))
              have HS8 := Lib.hid (S7.write 3 rfl hs'.2 _ hs'.1)
              have C5' := own_box (S7.own 3 _ rfl)
              have F5' := own_free (S7.own 3 _ rfl)
              have hq2 : (j : Int) + 1 < (np : Int) := by omega
              clear S7 hs hs' HG HS6
              go_upto_region 13 with (fail)
              obtain ⟨w9, hw9⟩ : ∃ w9, w9 = (w8.setCell ⟨g5, 3, none⟩ (.bool false)).setCell ⟨g5, 1, none⟩ (.int .i64 ((j : Int) + 1)) := ⟨_, rfl⟩
              rw [← hw9]
              have HS9 : Hid (Sep w w9 (stM w A c j z s A2 c2 r2 g5 ((j : Int) + 1) z2 false g6 o ja jb n)) := by rw [hw9]; exact HS8
              clear hw9 HS8 C0 C6 C5 F5 C5' F5'
              have C5 := own_box (HS9.out.own 3 _ rfl)
              have C1 := own_box (HS9.out.own 1 _ rfl)
              have F1 := own_free (HS9.out.own 1 _ rfl)
              have P8 := own_putAll [.slice A2 4 c2, .int .i64 ((j : Int) + 1), .bool z2, .bool false] _ _ 0 (HS9.out.own 1 _ rfl)
              have HS10 := Lib.hid (HS9.out.write 1 rfl P8.2 _ P8.1)
              clear P8 HS9
              go_wp2
              refine bodyPost_ret (v := regV A2 4 c2 ((j : Int) + 1) z2 false) (by simp [results, Try.results40, go_sem, C1, F1]) rfl ?_
              rw [HGs.out]
              exact ⟨_, _, rfl, HS10.out.own 2 _ rfl, HS10.out.bel⟩
        · clear hnx
          have hn9 : nxI ⟨o, ja, jb, n⟩ j z = n := HN.out
          clear HN
          have HN := Lib.hid hn9
          have h9 : ¬ o = 9 := by intro e; subst e; simp at hjm
          clear hn9 hjm
          have t9 : (o == 9) = false := by simp [h9]
          have HT9 := Lib.hid t9
          by_cases hq : (np : Int) ≤ n
          · have HE := Lib.hid (show enB np ⟨o, ja, jb, n⟩ j z = true by unfold enB; rw [HN.out]; simp [hq])
            have HGs := Lib.hid (show stG np ⟨o, ja, jb, n⟩ rs j z = ⟨r2, j, z2, true⟩ by rw [HG.out, HE.out]; rfl)
            have hs := World.ownsRow.stored (HS6.out.own 3 _ rfl) 3 (.bool true)
            have HS8 := Lib.hid (HS6.out.write 3 rfl hs.2 _ hs.1)
            have hq2 : ¬ n < (np : Int) := by omega
            clear hs HG HS6
            go_upto_region 13 with (fail)
            obtain ⟨w9, hw9⟩ : ∃ w9, w9 = w8.setCell ⟨g5, 3, none⟩ (.bool true) := ⟨_, rfl⟩
            rw [← hw9]
            have HS9 : Hid (Sep w w9 (stM w A c j z s A2 c2 r2 g5 (j) z2 true g6 o ja jb n)) := by rw [hw9]; exact HS8
            clear hw9 HS8 C0 C6 C5 F5
            have C5 := own_box (HS9.out.own 3 _ rfl)
            have C1 := own_box (HS9.out.own 1 _ rfl)
            have F1 := own_free (HS9.out.own 1 _ rfl)
            have P8 := own_putAll [.slice A2 4 c2, .int .i64 (j), .bool z2, .bool true] _ _ 0 (HS9.out.own 1 _ rfl)
            have HS10 := Lib.hid (HS9.out.write 1 rfl P8.2 _ P8.1)
            clear P8 HS9
            go_wp2
            refine bodyPost_ret (v := regV A2 4 c2 (j) z2 true) (by simp [results, Try.results40, go_sem, C1, F1]) rfl ?_
            rw [HGs.out]
            exact ⟨_, _, rfl, HS10.out.own 2 _ rfl, HS10.out.bel⟩
          · have HE := Lib.hid (show enB np ⟨o, ja, jb, n⟩ j z = false by unfold enB; rw [HN.out, HT0.out]; simp; omega)
            have HGs := Lib.hid (show stG np ⟨o, ja, jb, n⟩ rs j z = ⟨r2, n, z2, false⟩ by rw [HG.out, HE.out, HN.out, HT9.out]; rfl)
            have hs := World.ownsRow.stored (HS6.out.own 3 _ rfl) 3 (.bool false)
            have S7 := HS6.out.write 3 rfl hs.2 _ hs.1
            have hs' := World.ownsRow.stored (S7.own 3 _ rfl) 1 (.int .i64 (n))
            have HS8 := Lib.hid (S7.write 3 rfl hs'.2 _ hs'.1)
            have C5' := own_box (S7.own 3 _ rfl)
            have F5' := own_free (S7.own 3 _ rfl)
            have hq2 : n < (np : Int) := by omega
            clear S7 hs hs' HG HS6
            go_upto_region 13 with (fail)
            obtain ⟨w9, hw9⟩ : ∃ w9, w9 = (w8.setCell ⟨g5, 3, none⟩ (.bool false)).setCell ⟨g5, 1, none⟩ (.int .i64 (n)) := ⟨_, rfl⟩
            rw [← hw9]
            have HS9 : Hid (Sep w w9 (stM w A c j z s A2 c2 r2 g5 (n) z2 false g6 o ja jb n)) := by rw [hw9]; exact HS8
            clear hw9 HS8 C0 C6 C5 F5 C5' F5'
            have C5 := own_box (HS9.out.own 3 _ rfl)
            have C1 := own_box (HS9.out.own 1 _ rfl)
            have F1 := own_free (HS9.out.own 1 _ rfl)
            have P8 := own_putAll [.slice A2 4 c2, .int .i64 (n), .bool z2, .bool false] _ _ 0 (HS9.out.own 1 _ rfl)
            have HS10 := Lib.hid (HS9.out.write 1 rfl P8.2 _ P8.1)
            clear P8 HS9
            go_wp2
            refine bodyPost_ret (v := regV A2 4 c2 (n) z2 false) (by simp [results, Try.results40, go_sem, C1, F1]) rfl ?_
            rw [HGs.out]
            exact ⟨_, _, rfl, HS10.out.own 2 _ rfl, HS10.out.bel⟩
end Go.Proofs.Ytlahpnihnpmgoaa
