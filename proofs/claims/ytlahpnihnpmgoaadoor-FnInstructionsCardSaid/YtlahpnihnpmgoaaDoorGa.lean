/- Contracts of the scalar functions on instructions: uses, l3Uses, l3One, IsInstruction, toInstruction, eqInstruction. No conditions. -/
import Derived.Test.YtlahpnihnpmgoaaDoorIn
namespace Go.Proofs.YtlahpnihnpmgoaaDoor
open Go.RowKit
set_option linter.unusedVariables false
set_option linter.unusedSimpArgs false

def uA (o : Int) : Bool := o == 1 || (o == 2 || (o == 3 || (o == 4 || (o == 5 || o == 6))))
def uB (o : Int) : Bool := o == 2 || (o == 3 || (o == 4 || o == 5))
def uN (o : Int) : Int := if o = 1 then 65535 else if o = 6 then 15 else if o = 7 then 15 else if o = 8 then 15 else if o = 9 then 255 else 0
def uZ (o : Int) : Bool := o == 1 || (o == 6 || (o == 7 || (o == 8 || o == 9)))
def lim (b : Bool) (n : Int) : Int := if b then n else -1

theorem results_tmp4 {fn : Func} {t u v x : Tmp} (h : fn.results = #[.tmp t, .tmp u, .tmp v, .tmp x]) (tmps : Array Value) (P : Program) (w : World) :
    (results fn tmps).run P w = .ok (.tuple #[tmps.getD t undef, tmps.getD u undef, tmps.getD v undef, tmps.getD x undef]) w := by
  simp [results, h]
theorem ret_int3 {a b c a' b' c' : Int} (h : a = a') (k : b = b') (l : c = c') : Ending.returned (.tuple #[.int .i64 a, .int .i64 b, .int .i64 c]) = .returned (.tuple #[.int .i64 a', .int .i64 b', .int .i64 c']) := by rw [h, k, l]
theorem ret_bbbi {a b c a' b' c' : Bool} {n n' : Int} (h : a = a') (k : b = b') (l : c = c') (m : n = n') : Ending.returned (.tuple #[.bool a, .bool b, .bool c, .int .i64 n]) = .returned (.tuple #[.bool a', .bool b', .bool c', .int .i64 n']) := by rw [h, k, l, m]

set_option maxHeartbeats 1000000 in
theorem uses_any (o : Int) (w : World) :
    Calls Tryd.prog 31 #[.int .i64 o] w fun e w' => e = .returned (.tuple #[.int .i64 (lim (uA o) 3), .int .i64 (lim (uB o) 3), .int .i64 (lim (uZ o) (uN o))]) ∧ w = w' := by
  go_enter Tryd.func31, Tryd.ntmps31
  go_wp2
  all_goals go_ret3
  all_goals refine ⟨ret_int3 ?_ ?_ ?_, rfl⟩
  all_goals simp_all [lim, uA, uB, uN, uZ]

set_option maxHeartbeats 1000000 in
theorem l3Uses_any (o : Int) (w : World) :
    Calls Tryd.prog 25 #[.int .i64 o] w fun e w' => e = .returned (.tuple #[.bool (uA o), .bool (uB o), .bool (uZ o), .int .i64 (uN o)]) ∧ w = w' := by
  go_enter Tryd.func25, Tryd.ntmps25
  go_wp2
  all_goals refine bodyPost_ret (results_tmp4 rfl _ _ _) rfl ?_
  all_goals refine ⟨ret_bbbi ?_ ?_ ?_ ?_, rfl⟩
  all_goals simp_all [uA, uB, uN, uZ]

def insB (o a b n : Int) : Bool := inB o 0 9 && (inB a 0 (if uA o then 3 else 0) && (inB b 0 (if uB o then 3 else 0) && inB n 0 (uN o)))
abbrev insV (o a b n : Int) : Value := .agg #[.int .i64 o, .int .i64 a, .int .i64 b, .int .i64 n]

set_option maxHeartbeats 400000 in
theorem toInstruction_any (o a b n : Int) (w : World) :
    Calls Tryd.prog 7 #[insV o a b n] w fun e w' => e = .returned (insV o a b n) ∧ Below w.heap.size w w' := by
  go_enter Tryd.func7, Tryd.ntmps7
  go_wp2
  exact bodyPost_ret (v := insV o a b n) (by simp [results, Tryd.results7, go_sem]) rfl ⟨rfl, ((Below.refl _ _).alloc (Nat.le_refl _) _).alloc (by simp) _ |>.alloc (by simp <;> omega) _⟩

theorem inB00 : inB 0 0 0 = true := rfl
theorem uN_nn (o : Int) : 0 ≤ uN o := by unfold uN; (repeat' split) <;> omega
theorem uN_zero (o : Int) (h : uZ o = false) : uN o = 0 := by simp_all [uN, uZ]

set_option maxHeartbeats 1600000 in
theorem i_IsInstruction_any (o a b n : Int) (w : World) :
    Calls Tryd.prog 16 #[insV o a b n] w fun e w' => e = .returned (.bool (insB o a b n)) ∧ Below w.heap.size w w' := by
  go_enter Tryd.func16, Tryd.ntmps16
  go_wp2_with (first | (go_at_call 31; refine (uses_any _ _).mono ?_; rintro e w' ⟨rfl, rfl⟩) | (go_at_call 36; refine (inside_any _ _ _ _).mono ?_; rintro e w' ⟨rfl, rfl⟩))
  all_goals go_ret
  all_goals refine ⟨ret_bool ?_, below_alloc _ _⟩
  all_goals
    have hn := uN_nn o
    have hz := uN_zero o
    cases hA : uA o <;> cases hB : uB o <;> cases hZ : uZ o
  all_goals first
    | (exfalso; simp_all [lim]; done)
    | (exfalso; simp_all [lim]; omega)
    | (simp_all [lim, insB]; done)

set_option maxHeartbeats 1600000 in
theorem l3One_any (o a b n : Int) (w : World) :
    Calls Tryd.prog 21 #[insV o a b n] w fun e w' => e = .returned (.bool (insB o a b n)) ∧ Below w.heap.size w w' := by
  go_enter Tryd.func21, Tryd.ntmps21
  go_wp2_with (first | (go_at_call 25; refine (l3Uses_any _ _).mono ?_; rintro e w' ⟨rfl, rfl⟩) | (go_at_call 41; refine (l1In_any _ _ _ _).mono ?_; rintro e w' ⟨rfl, rfl⟩))
  all_goals go_ret
  all_goals refine ⟨ret_bool ?_, below_alloc _ _⟩
  all_goals
    cases hA : uA o <;> cases hB : uB o
  all_goals first
    | (exfalso; simp_all; done)
    | (simp_all [insB]; done)
    | (simp_all [insB, inB00]; done)
    | (simp_all [insB]; rw [Bool.eq_iff_iff]; simp_all [inB]; omega)
    | (simp_all [insB, inB]; omega)

theorem i_IsInstruction_eq {o a b n : Int} {r : Bool} (h : insB o a b n = r) (w : World) :
    Calls Tryd.prog 16 #[insV o a b n] w fun e w' => e = .returned (.bool r) ∧ Below w.heap.size w w' := by subst h; exact i_IsInstruction_any _ _ _ _ _
theorem l3One_eq {o a b n : Int} {r : Bool} (h : insB o a b n = r) (w : World) :
    Calls Tryd.prog 21 #[insV o a b n] w fun e w' => e = .returned (.bool r) ∧ Below w.heap.size w w' := by subst h; exact l3One_any _ _ _ _ _

end Go.Proofs.YtlahpnihnpmgoaaDoor
