/- FnExactStoredValue returns true for all arguments. No conditions. -/
import Derived.Test.YtoofkdlpjgokdaaWFnExactStoredValue
import Derived.Test.YtoofkdlpjgokdaaOpen
namespace Go.Proofs.Ytoofkdlpjgokdaa.FnExactStoredValue
open Go.ChangeShapes Go.WideShapes Go.ChangeAt Go.RowKit Go.Deep Go.Proofs.Ytoofkdlpjgokdaa
open Go.ChangeMaps (open_string shut_string)
set_option linter.unusedVariables false
set_option linter.unusedSimpArgs false

theorem own : ownKnob Try.prog.godebug = none := by kernel_rfl
theorem laidOut : laidOutB Try.prog = true := by kernel_rfl

theorem open_FnExactStoredValue_0 {H : Type} {enc : TypeId × Value → H} {w : World} {base b0 : Nat} {r : Reach} {spare : Nat → Bool} {held : Bool} {v : Value} {d : DataW H} {p : List MemPlace} (hv : Value.okWide Try.prog w r b0 23 v)
    (h : DataW.Trod enc Try.prog w base spare held 23 v d p) : ∃ (x0 : Int) (x1 : Int) (x2 : Bool) (x3 : Int) (x4 : Int), v = .agg #[.int .i64 x0, .int .i64 x1, .bool x2, .int .i64 x3, .int .i64 x4] ∧ (Lit.int .i64 x0).wf = true ∧ (Lit.int .i64 x1).wf = true ∧ (Lit.int .i64 x3).wf = true ∧ (Lit.int .i64 x4).wf = true := by
  obtain ⟨cs, m, rfl, hl, hf⟩ := open_struct Try.underlying23 (by kernel_rfl) (by kernel_rfl) hv h
  match cs, hl with
  | [c0, c1, c2, c3, c4], _ =>
    obtain ⟨_, y0, he0, ht0⟩ := hf 0 _ rfl
    simp only [List.getElem?_cons_zero, List.getElem?_cons_succ, Option.some.injEq] at he0
    subst he0
    obtain ⟨x0, e0, -, w0⟩ := DataW.trod_int Try.underlying3 ht0
    simp only [List.cons.injEq, and_true] at e0
    subst e0
    obtain ⟨_, y1, he1, ht1⟩ := hf 1 _ rfl
    simp only [List.getElem?_cons_zero, List.getElem?_cons_succ, Option.some.injEq] at he1
    subst he1
    obtain ⟨x1, e1, -, w1⟩ := DataW.trod_int Try.underlying3 ht1
    simp only [List.cons.injEq, and_true] at e1
    subst e1
    obtain ⟨_, y2, he2, ht2⟩ := hf 2 _ rfl
    simp only [List.getElem?_cons_zero, List.getElem?_cons_succ, Option.some.injEq] at he2
    subst he2
    obtain ⟨x2, e2, -⟩ := DataW.trod_bool Try.underlying4 ht2
    simp only [List.cons.injEq, and_true] at e2
    subst e2
    obtain ⟨_, y3, he3, ht3⟩ := hf 3 _ rfl
    simp only [List.getElem?_cons_zero, List.getElem?_cons_succ, Option.some.injEq] at he3
    subst he3
    obtain ⟨x3, e3, -, w3⟩ := DataW.trod_int Try.underlying3 ht3
    simp only [List.cons.injEq, and_true] at e3
    subst e3
    obtain ⟨_, y4, he4, ht4⟩ := hf 4 _ rfl
    simp only [List.getElem?_cons_zero, List.getElem?_cons_succ, Option.some.injEq] at he4
    subst he4
    obtain ⟨x4, e4, -, w4⟩ := DataW.trod_int Try.underlying3 ht4
    simp only [List.cons.injEq, and_true] at e4
    subst e4
    exact ⟨x0, x1, x2, x3, x4, rfl, w0, w1, w3, w4⟩

set_option maxRecDepth 100000 in
set_option linter.unusedVariables false in
theorem lifted_FnExactStoredValue (os : Os) (started : os.Started) (H : Type) (enc : TypeId × Value → H) :
    ReturnsInHanded {} Try.checked os 10 .any (Rows.fnExactStoredValueSpec.pre6 enc Try.prog Try.f10 Rows.fnExactStoredValueRow.domain false) (Rows.fnExactStoredValueSpec.post enc Try.prog Try.f10 false true false false) := by
  refine returnsInHanded_of_change (C := Try.checked) own started (by kernel_rfl) Try.func10
    (ChangeSpec.witness6 (enc := enc) (C := Try.checked) false ⟨#[], #[.agg #[.int .i64 0, .int .i64 0, .bool false, .int .i64 0, .int .i64 0], .slice none 0 0], []⟩ 8 (by kernel_rfl) (by kernel_rfl) (by kernel_rfl) (by kernel_rfl)) ?_
  intro W base args ds gs before hval0 hW hcnd _
  have hval : ∀ (j : Nat) t v, Try.f10.params[j]? = some t → args[j]? = some v → Value.okWide Try.prog W .any base t v := hval0
  have hW' := hW
  obtain ⟨p, q, hA0, hV, rfl, hfz, hnd⟩ := hW
  have hA : DataW.TrodAll enc Try.prog W 0 (fun _ => true) true Try.f10.params.toList args.toList ds p := hA0
  rw [Try.params10] at hA hval
  obtain ⟨v0, vs0, d0, ds0, p0, q0, hargs, rfl, rfl, h0, r0⟩ := trodAll_cons hA
  obtain ⟨v1, vs1, d1, ds1, p1, q1, rfl, rfl, rfl, h1, r1⟩ := trodAll_cons r0
  obtain ⟨rfl, rfl, rfl⟩ := trodAll_nil r1
  obtain rfl : args = #[v0, v1] := by cases args; simp_all
  obtain ⟨rfl, rfl⟩ := trodVars_none hV
  have k0 := h0
  have lt0 : ∀ x ∈ p0, x.block < W.heap.size := by obtain ⟨m, hm⟩ := k0; exact DataW.trod_lt m _ _ _ hm
  obtain ⟨x0_0, x0_1, x0_2, x0_3, x0_4, rfl, w0_0, w0_1, w0_3, w0_4⟩ := open_FnExactStoredValue_0 (hval 0 23 v0 rfl rfl) h0
  have k1 := h1
  have lt1 : ∀ x ∈ p1, x.block < W.heap.size := by obtain ⟨m, hm⟩ := k1; exact DataW.trod_lt m _ _ _ hm
  obtain ⟨A1, n1, c1, a1, rfl, hc1, hm1, hl1, w1, wf1⟩ := open_rd Try.underlying42 Try.underlying3 (by kernel_rfl) (hval 1 42 v1 rfl rfl) h1
  clear hA0 hval0
  refine (walk_FnExactStoredValue x0_0 x0_1 x0_2 x0_3 x0_4 A1 n1 c1 a1 W w0_0 w0_1 w0_3 w0_4 w1 wf1).mono fun e W' ⟨he, bel⟩ => ?_
  subst he
  exact ⟨_, rfl, _, _, _, [], _, [], hW', trodAll_mk1 (shut_bool Try.underlying4 _), (trodAll_cons_mk (Below.trod laidOut (by kernel_rfl) (of_decide_eq_true (by kernel_rfl)) k0 bel lt0) (trodAll_cons_mk (Below.trod laidOut (by kernel_rfl) (of_decide_eq_true (by kernel_rfl)) k1 bel lt1) trodAll_mk0)), rfl, bel.frame _, fun h => by cases h⟩

theorem FnExactStoredValue_holds : Rows.FnExactStoredValueSaid :=
  OpenClaim.holds_of_wide 10 Try.f10 rfl rfl rfl rfl rfl rfl rfl ⟨rfl, rfl, rfl, rfl, rfl⟩ rfl rfl rfl rfl rfl (by kernel_rfl) Try.func10 (by kernel_rfl)
    (of_decide_eq_true (by kernel_rfl)) (by unfold Func.isWrapper; rw [if_neg (of_decide_eq_false (by kernel_rfl))]; exact ⟨rfl, rfl⟩)
    (fun os started H enc _ => lifted_FnExactStoredValue os started H enc)
#print axioms FnExactStoredValue_holds
end Go.Proofs.Ytoofkdlpjgokdaa.FnExactStoredValue
