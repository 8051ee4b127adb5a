/- Contract of newRegisters; what a step of a guest makes of registers. Lengths at most 2^20. -/
import Derived.Test.YtlahpnihnpmgoaaSg
import Derived.Deep.RegionHeld3
namespace Go.Proofs.Ytlahpnihnpmgoaa
open Go.RowKit
set_option linter.unusedVariables false
set_option linter.unusedSimpArgs false
set_option maxHeartbeats 2000000 in
theorem newRegisters_any (A : Option Addr) (n c : Nat) (rs : List Int) (a : Int) (z s : Bool) (w : World) (hr : Rd w 1 A n (I rs)) (hn : n ≤ 1048576) :
    Calls Try.prog 39 #[regV A n c a z s] w fun e w' => ∃ A' c', e = .returned (regV A' n c' a z s) ∧ Own w' w.heap.size (ti A' n c' rs) ∧ Below w.heap.size w w' := by
  have S0 := (Sep.start w).new (below_alloc w _) (own_bx w 37 4 #[.slice A n c, .int .i64 a, .bool z, .bool s] rfl)
  have S1 := S0.new (below_alloc _ _) (own_bx _ 37 4 #[.slice none 0 0, .int .i64 0, .bool false, .bool false] rfl)
  simp only [List.nil_append, List.cons_append, size_alloc] at S1
  have HS1 := Lib.hid S1
  clear S0 S1
  go_enter Try.func39, Try.ntmps39
  go_wp2_with fail
  refine (copyInts_any A n c rs _ (hr.sep HS1.out) hn).mono ?_
  rintro e w1 ⟨A', c', rfl, ho, hb⟩
  have S3 := HS1.out.new hb ho
  simp only [List.nil_append, List.cons_append] at S3
  have C0 := own_box (S3.own 0 _ rfl)
  have C1 := own_box (S3.own 1 _ rfl)
  have F0 := own_free (S3.own 0 _ rfl)
  have F1 := own_free (S3.own 1 _ rfl)
  have HS3 := Lib.hid S3
  clear S3 ho hb
  go_wp2
  refine bodyPost_ret (v := regV A' n c' a z s) (by simp [results, Try.results39, go_sem, C1, C0]) rfl ?_
  have P1 := own_putAll [.slice A' n c'] w1 _ 0 (HS3.out.own 0 _ rfl)
  have S4 := HS3.out.write 0 rfl P1.2 _ P1.1
  have P2 := own_putAll [.slice A' n c', .int .i64 a, .bool z, .bool s] _ _ 0 (S4.own 1 _ rfl)
  have S5 := S4.write 1 rfl P2.2 _ P2.1
  exact ⟨_, _, rfl, S5.own 2 _ rfl, S5.bel⟩

/-- registers -/
structure GS where
  rs : List Int
  a : Int
  z : Bool
  s : Bool
def rAt (rs : List Int) (i : Int) : Int := rs[i.toNat]?.getD 0
def stV (x : RInstruction) (rs : List Int) : Int := vF x.f0 x.f3 (rAt rs x.f1) (rAt rs x.f2)
/-- the next place -/
def nxI (x : RInstruction) (a : Int) (z : Bool) : Int := if x.f0 == 7 || (x.f0 == 8 && z) then x.f3 else a + 1
/-- does it stop there -/
def enB (n : Nat) (x : RInstruction) (a : Int) (z : Bool) : Bool := x.f0 == 0 || decide ((n : Int) ≤ nxI x a z)
/-- a step -/
def stG (n : Nat) (x : RInstruction) (rs : List Int) (a : Int) (z : Bool) : GS :=
  ⟨if puB x.f0 then rs.set x.f1.toNat (stV x rs) else rs, if enB n x a z then a else nxI x a z, if puB x.f0 then stV x rs == 0 else z, enB n x a z || x.f0 == 9⟩
theorem stG_len (n : Nat) (x : RInstruction) (rs : List Int) (a : Int) (z : Bool) : (stG n x rs a z).rs.length = rs.length := by
  unfold stG
  dsimp only
  split
  · simp
  · rfl
end Go.Proofs.Ytlahpnihnpmgoaa
