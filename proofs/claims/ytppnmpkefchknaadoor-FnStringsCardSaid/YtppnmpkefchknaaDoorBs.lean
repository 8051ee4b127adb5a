/- Words on lists of bytes as cells. No conditions. -/
import Derived.Test.YtppnmpkefchknaaDoorRows
import Derived.Test.YtppnmpkefchknaaDoorMem
namespace Go.Proofs.YtppnmpkefchknaaDoor
open Go.RowKit
set_option linter.unusedVariables false
set_option linter.unusedSimpArgs false

/-- a list of bytes as cells -/
def Bs (l : List UInt8) : List Value := l.map fun b => Value.int .u8 (b.toNat : Int)
theorem Bs_length (l : List UInt8) : (Bs l).length = l.length := by simp [Bs]
theorem Bs_append (a b : List UInt8) : Bs (a ++ b) = Bs a ++ Bs b := by simp [Bs]
theorem Tryd.info5 : (Tryd.prog.info? 5).map (fun i => (i.zero, i.size, i.bytes)) = some (some (.int .u8 0), 1, 1) := by kernel_rfl
abbrev tb (A : Option Addr) (n c : Nat) (l : List UInt8) : Thing := ⟨5, 1, A, n, c, Bs l⟩
theorem own_string {w : World} {B : Nat} {A : Option Addr} {n c : Nat} {l : List UInt8} (h : Own w B (tb A n c l)) : (convert 22 9 (.slice A n c)).run Tryd.prog w = .ok (.string ⟨l.toArray⟩) w := by
  have hl : l.length = n := by have := (Own.rd h).1; simpa [Bs] using this
  rcases A with _ | a
  · have h0 : n = 0 := by
      rcases h.2 with ⟨_, h0⟩ | ⟨g, cap, cur, hv, _⟩
      · exact h0
      · simp at hv
    have hn : l = [] := List.eq_nil_of_length_eq_zero (by omega)
    subst hn
    exact run_convert_bytes_nil (P := Tryd.prog) (w := w) 22 5 Tryd.underlying22 Tryd.underlying5 n c 9 Tryd.underlying9
  · subst hl
    refine run_convert_bytes_back (P := Tryd.prog) w 22 9 5 a c l Tryd.underlying22 Tryd.underlying5 Tryd.underlying9 fun j hj => ?_
    obtain ⟨b, o, hA, _, hc⟩ := (Own.rd h).2 (show 0 < l.length by omega)
    obtain rfl := Option.some.inj hA
    have hadd : (⟨b, o, none⟩ : Addr).add j = ⟨b, o + j, none⟩ := by unfold Addr.add; split <;> simp_all
    rw [hadd]
    exact hc j _ (by show (Bs l)[j]? = _; simp [Bs, hj])

end Go.Proofs.YtppnmpkefchknaaDoor
