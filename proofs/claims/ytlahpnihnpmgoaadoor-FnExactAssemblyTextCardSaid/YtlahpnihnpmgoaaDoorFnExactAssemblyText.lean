/- FnExactAssemblyText returns true for every instruction (the card of it, tied to the program). No conditions. -/
import Derived.Test.YtlahpnihnpmgoaaDoorWFnExactAssemblyText
import Derived.Test.YtlahpnihnpmgoaaDoorOpen
import Derived.Test.YtlahpnihnpmgoaaDoorTie
import Derived.Test.YtlahpnihnpmgoaaDoorCards
import Derived.SevenTiedAt
import Derived.OpenVars
namespace Go.Proofs.YtlahpnihnpmgoaaDoor.FnExactAssemblyText
open Go.ChangeShapes Go.WideShapes Go.ChangeAt Go.RowKit Go.Deep Go.Proofs.YtlahpnihnpmgoaaDoor
open Go.ChangeMaps (open_string shut_string)
set_option linter.unusedVariables false
set_option linter.unusedSimpArgs false

set_option maxRecDepth 100000 in
theorem open_FnExactAssemblyText_0 {H : Type} {enc : TypeId × Value → H} {w : World} {base b0 : Nat} {r : Reach} {spare : Nat → Bool} {held : Bool} {v : Value} {d : DataW H} {p : List MemPlace} (hv : Value.okWide Tryd.prog w r b0 23 v)
    (h : DataW.Trod enc Tryd.prog w base spare held 23 v d p) : ∃ (x0 : Int) (x1 : Int) (x2 : Int) (x3 : Int), v = .agg #[.int .i64 x0, .int .i64 x1, .int .i64 x2, .int .i64 x3] ∧ (Lit.int .i64 x0).wf = true ∧ (Lit.int .i64 x1).wf = true ∧ (Lit.int .i64 x2).wf = true ∧ (Lit.int .i64 x3).wf = true := by
  obtain ⟨cs, m, rfl, hl, hf⟩ := open_struct Tryd.underlying23 (by kernel_rfl) (by kernel_rfl) hv h
  match cs, hl with
  | [c0, c1, c2, c3], _ =>
    obtain ⟨_, y0, he0, ht0⟩ := hf 0 _ rfl
    simp only [List.getElem?_cons_zero, List.getElem?_cons_succ, Option.some.injEq] at he0
    subst he0
    obtain ⟨x0, e0, -, w0⟩ := DataW.trod_int Tryd.underlying3 ht0
    simp only [List.cons.injEq, and_true] at e0
    subst e0
    obtain ⟨_, y1, he1, ht1⟩ := hf 1 _ rfl
    simp only [List.getElem?_cons_zero, List.getElem?_cons_succ, Option.some.injEq] at he1
    subst he1
    obtain ⟨x1, e1, -, w1⟩ := DataW.trod_int Tryd.underlying3 ht1
    simp only [List.cons.injEq, and_true] at e1
    subst e1
    obtain ⟨_, y2, he2, ht2⟩ := hf 2 _ rfl
    simp only [List.getElem?_cons_zero, List.getElem?_cons_succ, Option.some.injEq] at he2
    subst he2
    obtain ⟨x2, e2, -, w2⟩ := DataW.trod_int Tryd.underlying3 ht2
    simp only [List.cons.injEq, and_true] at e2
    subst e2
    obtain ⟨_, y3, he3, ht3⟩ := hf 3 _ rfl
    simp only [List.getElem?_cons_zero, List.getElem?_cons_succ, Option.some.injEq] at he3
    subst he3
    obtain ⟨x3, e3, -, w3⟩ := DataW.trod_int Tryd.underlying3 ht3
    simp only [List.cons.injEq, and_true] at e3
    subst e3
    exact ⟨x0, x1, x2, x3, rfl, w0, w1, w2, w3⟩

set_option maxRecDepth 100000 in
set_option linter.unusedVariables false in
theorem lifted_FnExactAssemblyText (os : Os) (started : os.Started) (H : Type) (enc : TypeId × Value → H) :
    ReturnsInHanded {} Tryd.checked os 3 .any (fun w args => (Rows.fnExactAssemblyTextSpec.pre enc Tryd.prog Tryd.f3 [] false w args ∧ laidMetH Tryd.prog lst4 w) ∧ sizedMet enc Tryd.prog Tryd.f3 (OpenSpec.ofChange Rows.fnExactAssemblyTextSpec) false w args)
      (Rows.fnExactAssemblyTextSpec.post enc Tryd.prog Tryd.f3 false true false false) := by
  refine lift_shaped (C := Tryd.checked) (X := fun w _ => laidMetH Tryd.prog lst4 w) (fun _ _ _ hh h => h.of_heap hh) own started (by kernel_rfl) Tryd.func3
    (ChangeSpec.witness_shaped (enc := enc) (C := Tryd.checked) (os := os) (X := fun w _ => laidMetH Tryd.prog lst4 w) false (World.doorLaid Tryd.prog 400 os) #[.agg #[.int .i64 0, .int .i64 0, .int .i64 0, .int .i64 0]] 8 rfl (World.shaped_of_RefB (by kernel_rfl) (by kernel_rfl)) (by kernel_rfl) (by kernel_rfl) (by kernel_rfl) (door_met4 os _)) ?_
  intro W base args ds gs before hval0 hW hL hsh
  have hval : ∀ (j : Nat) t v, Tryd.f3.params[j]? = some t → args[j]? = some v → Value.okWide Tryd.prog W .any base t v := hval0
  have hW' := hW
  obtain ⟨p, q, hA0, hV, rfl, hfz, hnd⟩ := hW
  have hA : DataW.TrodAll enc Tryd.prog W 0 (fun _ => true) true Tryd.f3.params.toList args.toList ds p := hA0
  rw [Tryd.params3] at hA hval
  obtain ⟨v0, vs0, d0, ds0, p0, q0, hargs, rfl, rfl, h0, r0⟩ := trodAll_cons hA
  obtain ⟨rfl, rfl, rfl⟩ := trodAll_nil r0
  obtain rfl : args = #[v0] := by cases args; simp_all
  have hV2 := hV
  obtain ⟨g1, t1, cs1, f1, dv, qv, rfl, -, -, -, -, -⟩ := trodVars_one hV
  have k0 := h0
  have lt0 : ∀ x ∈ p0, x.block < W.heap.size := by obtain ⟨m, hm⟩ := k0; exact DataW.trod_lt m _ _ _ hm
  obtain ⟨x0_0, x0_1, x0_2, x0_3, rfl, w0_0, w0_1, w0_2, w0_3⟩ := open_FnExactAssemblyText_0 (hval 0 23 v0 rfl rfl) h0
  clear hA0 hval0
  refine (walk_FnExactAssemblyText x0_0 x0_1 x0_2 x0_3 W w0_0 w0_1 w0_2 w0_3 hL hsh).mono fun e W' ⟨he, bel⟩ => ?_
  subst he
  exact ⟨_, rfl, _, _, _, [], _, _, hW', trodAll_mk1 (shut_bool Tryd.underlying4 _), (trodAll_cons_mk (Below.trod laidOut (by kernel_rfl) (of_decide_eq_true (by kernel_rfl)) k0 bel lt0) trodAll_mk0), Below.trodVars laidOut bel (by kernel_rfl) hV2, bel.frame _, fun h => by cases h⟩

theorem FnExactAssemblyText_row : Rows.FnExactAssemblyTextSaid :=
  OpenClaim.holds_of_wide 3 Tryd.f3 rfl rfl rfl rfl rfl rfl rfl ⟨rfl, rfl, rfl, rfl, rfl⟩ rfl rfl rfl rfl rfl (by kernel_rfl) Tryd.func3 (by kernel_rfl)
    (of_decide_eq_true (by kernel_rfl)) (by unfold Func.isWrapper; rw [if_neg (of_decide_eq_false (by kernel_rfl))]; exact ⟨rfl, rfl⟩)
    (fun os started H enc _ => lifted_FnExactAssemblyText os started H enc)

theorem FnExactAssemblyText_holds : Rows.FnExactAssemblyTextCardSaid :=
  Claim7.holds_tied_plain_at .later [] [.data, .data, .data, .widerDeep] true Rows.fnExactAssemblyTextCard.stood.harness true
    FnExactAssemblyText_row (fun _ h => by cases h) (by kernel_rfl) (fun _ h => by cases h) fnExactAssemblyText_row_tie rfl ⟨rfl, rfl⟩ (by kernel_rfl) rfl
    (fun f fn hf hfn => by
      obtain rfl : f = 3 := Option.some.inj ((show Tryd.prog.funcNamed "loop.example/g00843/laws.FnExactAssemblyText" = some 3 by kernel_rfl).symm.trans hf) |>.symm
      obtain rfl : fn = Tryd.f3 := (Option.some.inj (Tryd.func3.symm.trans hfn)).symm
      refine ⟨by kernel_rfl, fun j t ht => ?_⟩
      rw [Tryd.params3] at ht
      have hm : t ∈ [23] := by
        have := List.mem_of_getElem? (l := [23]) (i := j) (a := t) (by simpa using ht)
        exact this
      have hall : ∀ u ∈ [23], Tryd.prog.wantsStandIn u = false := by
        intro u hu
        simp only [List.mem_cons, List.not_mem_nil, or_false] at hu
        subst hu
        kernel_rfl
      exact hall t hm)
    (by kernel_rfl)


#print axioms FnExactAssemblyText_holds
end Go.Proofs.YtlahpnihnpmgoaaDoor.FnExactAssemblyText
