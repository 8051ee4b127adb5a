/- The names of the ops as the row lists them: a table of texts; what a walk reads of it. No conditions. -/
import Derived.Test.YtlahpnihnpmgoaaDoorFm
import Derived.ProofKit
import Derived.LaidMore
import Derived.OpenShut
import Derived.ShutString
import Derived.ChangeOld
import Derived.Stop.Joined
import Derived.MakeChecks
namespace Go.Proofs.YtlahpnihnpmgoaaDoor
open Go.ChangeShapes Go.WideShapes Go.ChangeAt Go.RowKit
set_option linter.unusedVariables false
set_option linter.unusedSimpArgs false

/-- an array of texts that reads as listed holds these texts, cell for cell -/
theorem cells_of_strs {H : Type} {enc : TypeId × Value → H} {P : Program} {w : World} {base : Nat} {sp : Nat → Bool} {held : Bool} {fuel : Nat} {t e : TypeId} {n : Nat} {cs : List Value} {zs : List (List UInt8)} {p : List MemPlace}
    (ht : P.underlying t = some (.array n e)) (he : P.underlying e = some .string) (hce : P.cellsOf e = 1) (hct : P.cellsOf t = n)
    (h : DataW.trod enc P w base sp held fuel t cs = some (.agg (zs.map fun z => .lit (.string z)), p)) : cs = zs.map fun z => Value.string ⟨z.toArray⟩ := by
  cases fuel with
  | zero => simp [DataW.trod] at h
  | succ fuel =>
    simp only [DataW.trod, ht, hce, hct, Nat.mul_one] at h
    split at h
    · rename_i hl
      obtain ⟨xs, hm, hx⟩ := Option.map_eq_some_iff.1 h
      have hxs : xs.map (·.1) = zs.map fun z => (DataW.lit (.string z) : DataW H) := by
        have := congrArg Prod.fst hx
        simpa using this
      have hxl : xs.length = n := by simpa using Lib.mapM_length hm
      have hzl : zs.length = n := by
        have := congrArg List.length hxs
        simp at this
        omega
      apply List.ext_getElem?
      intro i
      by_cases hi : i < n
      · obtain ⟨b, hb, hf⟩ := Lib.mapM_at hm i i (by simp [hi])
        obtain ⟨s, hc, rfl, _⟩ := DataW.trod_string he hf
        have h1 : cs[i]? = some (.string s) := by
          have := congrArg (·[0]?) hc
          simpa [List.getElem?_take, List.getElem?_drop] using this
        have h2 : (xs.map (·.1))[i]? = some (DataW.lit (.string s.data.toList) : DataW H) := by simp [hb]
        rw [hxs] at h2
        simp only [List.getElem?_map, Option.map_eq_some_iff, DataW.lit.injEq, Lit.string.injEq] at h2
        obtain ⟨z', hz', rfl⟩ := h2
        simp [h1, hz']
      · rw [List.getElem?_eq_none (by omega), List.getElem?_eq_none (by simp; omega)]
    · cases h

/-- the names of the ops -/
def opN : List (List UInt8) := [[104, 97, 108, 116], [115, 101, 116], [109, 111, 118, 101], [97, 100, 100], [115, 117, 98], [97, 110, 100], [115, 104, 105, 102, 116], [106, 117, 109, 112], [106, 117, 109, 112, 122, 101, 114, 111], [116, 114, 97, 112]]
theorem opN_laid {H : Type} : (Rows.laid_loop_example_g00843_impl_opNames : DataW H) = .agg (opN.map fun z => .lit (.string z)) := rfl
/-- the table of names in memory -/
def Nms (w : World) : Prop := w.var? Tryd.prog "loop.example/g00843/impl.opNames" = some (opN.map fun z => Value.string ⟨z.toArray⟩).toArray
theorem gNms : Tryd.prog.globalNamed "loop.example/g00843/impl.opNames" = some 0 := by kernel_rfl
theorem tNms : (Tryd.prog.globals[0]?).map (·.type) = some 52 := by kernel_rfl
theorem Nms.keep {w w' : World} (h : Nms w) (hb : Below w.heap.size w w') : Nms w' := by
  unfold Nms World.var? at h ⊢
  rw [gNms] at h ⊢
  simp only [Option.bind_some] at h ⊢
  have hlt : 0 < w.heap.size := by
    rcases Nat.lt_or_ge 0 w.heap.size with h1 | h1
    · exact h1
    · rw [Array.getElem?_eq_none h1] at h; simp at h
  rw [hb.block _ hlt]
  exact h
/-- what a walk reads of it -/
theorem Nms.cell {w : World} (h : Nms w) (i : Nat) (z : List UInt8) (hz : opN[i]? = some z) : w.cell? ⟨0, i, none⟩ = some (.string ⟨z.toArray⟩) := by
  have := World.var?_cell gNms h i
  rw [this]
  simp [hz]
end Go.Proofs.YtlahpnihnpmgoaaDoor
