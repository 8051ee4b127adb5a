/- FnExactIsInstruction returns true for every instruction. No conditions. -/
import Derived.Test.YtdlgohndocpmjaaWFnExactIsInstruction
import Derived.Test.YtdlgohndocpmjaaOpen
namespace Go.Proofs.Ytdlgohndocpmjaa.FnExactIsInstruction
open Go.ChangeShapes Go.WideShapes Go.ChangeAt Go.RowKit Go.Deep Go.Proofs.Ytdlgohndocpmjaa
open Go.ChangeMaps (open_string shut_string)
set_option linter.unusedVariables false
set_option linter.unusedSimpArgs false

theorem own : ownKnob Try.prog.godebug = none := by kernel_rfl
theorem laidOut : laidOutB Try.prog = true := by kernel_rfl

set_option maxRecDepth 100000 in
theorem open_FnExactIsInstruction_0 {H : Type} {enc : TypeId × Value → H} {w : World} {base b0 : Nat} {r : Reach} {spare : Nat → Bool} {held : Bool} {v : Value} {d : DataW H} {p : List MemPlace} (hv : Value.okWide Try.prog w r b0 23 v)
    (h : DataW.Trod enc Try.prog w base spare held 23 v d p) : ∃ (x0 : Int) (x1 : Int) (x2 : Int) (x3 : Int), v = .agg #[.int .i64 x0, .int .i64 x1, .int .i64 x2, .int .i64 x3] ∧ (Lit.int .i64 x0).wf = true ∧ (Lit.int .i64 x1).wf = true ∧ (Lit.int .i64 x2).wf = true ∧ (Lit.int .i64 x3).wf = true := by
  obtain ⟨cs, m, rfl, hl, hf⟩ := open_struct Try.underlying23 (by kernel_rfl) (by kernel_rfl) hv h
  match cs, hl with
  | [c0, c1, c2, c3], _ =>
    obtain ⟨_, y0, he0, ht0⟩ := hf 0 _ rfl
    simp only [List.getElem?_cons_zero, List.getElem?_cons_succ, Option.some.injEq] at he0
    subst he0
    obtain ⟨x0, e0, -, w0⟩ := DataW.trod_int Try.underlying3 ht0
    simp only [List.cons.injEq, and_true] at e0
    subst e0
    obtain ⟨_, y1, he1, ht1⟩ := hf 1 _ rfl
    simp only [List.getElem?_cons_zero, List.getElem?_cons_succ, Option.some.injEq] at he1
    subst he1
    obtain ⟨x1, e1, -, w1⟩ := DataW.trod_int Try.underlying3 ht1
    simp only [List.cons.injEq, and_true] at e1
    subst e1
    obtain ⟨_, y2, he2, ht2⟩ := hf 2 _ rfl
    simp only [List.getElem?_cons_zero, List.getElem?_cons_succ, Option.some.injEq] at he2
    subst he2
    obtain ⟨x2, e2, -, w2⟩ := DataW.trod_int Try.underlying3 ht2
    simp only [List.cons.injEq, and_true] at e2
    subst e2
    obtain ⟨_, y3, he3, ht3⟩ := hf 3 _ rfl
    simp only [List.getElem?_cons_zero, List.getElem?_cons_succ, Option.some.injEq] at he3
    subst he3
    obtain ⟨x3, e3, -, w3⟩ := DataW.trod_int Try.underlying3 ht3
    simp only [List.cons.injEq, and_true] at e3
    subst e3
    exact ⟨x0, x1, x2, x3, rfl, w0, w1, w2, w3⟩

set_option maxRecDepth 100000 in
set_option linter.unusedVariables false in
theorem lifted_FnExactIsInstruction (os : Os) (started : os.Started) (H : Type) (enc : TypeId × Value → H) :
    ReturnsInHanded {} Try.checked os 3 .any (Rows.fnExactIsInstructionSpec.pre6 enc Try.prog Try.f3 Rows.fnExactIsInstructionRow.domain false) (Rows.fnExactIsInstructionSpec.post enc Try.prog Try.f3 false true false false) := by
  refine returnsInHanded_of_change (C := Try.checked) own started (by kernel_rfl) Try.func3
    (ChangeSpec.witness6 (enc := enc) (C := Try.checked) false ⟨#[], #[.agg #[.int .i64 0, .int .i64 0, .int .i64 0, .int .i64 0]], []⟩ 8 (by kernel_rfl) (by kernel_rfl) (by kernel_rfl) (by kernel_rfl)) ?_
  intro W base args ds gs before hval0 hW hcnd _
  have hval : ∀ (j : Nat) t v, Try.f3.params[j]? = some t → args[j]? = some v → Value.okWide Try.prog W .any base t v := hval0
  have hW' := hW
  obtain ⟨p, q, hA0, hV, rfl, hfz, hnd⟩ := hW
  have hA : DataW.TrodAll enc Try.prog W 0 (fun _ => true) true Try.f3.params.toList args.toList ds p := hA0
  rw [Try.params3] at hA hval
  obtain ⟨v0, vs0, d0, ds0, p0, q0, hargs, rfl, rfl, h0, r0⟩ := trodAll_cons hA
  obtain ⟨rfl, rfl, rfl⟩ := trodAll_nil r0
  obtain rfl : args = #[v0] := by cases args; simp_all
  obtain ⟨rfl, rfl⟩ := trodVars_none hV
  have k0 := h0
  have lt0 : ∀ x ∈ p0, x.block < W.heap.size := by obtain ⟨m, hm⟩ := k0; exact DataW.trod_lt m _ _ _ hm
  obtain ⟨x0_0, x0_1, x0_2, x0_3, rfl, w0_0, w0_1, w0_2, w0_3⟩ := open_FnExactIsInstruction_0 (hval 0 23 v0 rfl rfl) h0
  clear hA0 hval0
  refine (walk_FnExactIsInstruction x0_0 x0_1 x0_2 x0_3 W w0_0 w0_1 w0_2 w0_3).mono fun e W' ⟨he, bel⟩ => ?_
  subst he
  exact ⟨_, rfl, _, _, _, [], _, [], hW', trodAll_mk1 (shut_bool Try.underlying4 _), (trodAll_cons_mk (Below.trod laidOut (by kernel_rfl) (of_decide_eq_true (by kernel_rfl)) k0 bel lt0) trodAll_mk0), rfl, bel.frame _, fun h => by cases h⟩

theorem FnExactIsInstruction_holds : Rows.FnExactIsInstructionSaid :=
  OpenClaim.holds_of_wide 3 Try.f3 rfl rfl rfl rfl rfl rfl rfl ⟨rfl, rfl, rfl, rfl, rfl⟩ rfl rfl rfl rfl rfl (by kernel_rfl) Try.func3 (by kernel_rfl)
    (of_decide_eq_true (by kernel_rfl)) (by unfold Func.isWrapper; rw [if_neg (of_decide_eq_false (by kernel_rfl))]; exact ⟨rfl, rfl⟩)
    (fun os started H enc _ => lifted_FnExactIsInstruction os started H enc)
#print axioms FnExactIsInstruction_holds
end Go.Proofs.Ytdlgohndocpmjaa.FnExactIsInstruction
