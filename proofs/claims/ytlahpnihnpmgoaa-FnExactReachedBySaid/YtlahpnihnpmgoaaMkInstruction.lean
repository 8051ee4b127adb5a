/- Contracts of markInstructionS. Lengths at most 2^20. -/
import Derived.Test.YtlahpnihnpmgoaaStInstruction
namespace Go.Proofs.Ytlahpnihnpmgoaa
open Go.RowKit
set_option linter.unusedVariables false
set_option linter.unusedSimpArgs false

/-- the record that is laid at the number q -/
def mkInstruction (q : Int) : RInstruction := ⟨(q), (q + 1), (q + 1 + 1), (q + 1 + 1 + 1)⟩
def mksInstruction (q : Int) (n : Nat) : List RInstruction := (List.range n).map fun i : Nat => mkInstruction (q + (i : Int) * 4)
theorem mksInstruction_length (q : Int) (n : Nat) : (mksInstruction q n).length = n := by simp [mksInstruction]
theorem mksInstruction_get {q : Int} {n i : Nat} (h : i < n) : (mksInstruction q n)[i]? = some (mkInstruction (q + (i : Int) * 4)) := by simp [mksInstruction, h]

set_option maxHeartbeats 4000000 in
theorem markInstructionS_any (A : Option Addr) (n c B : Nat) (xs : List RInstruction) (m : Int) (w : World) (ho : Own w B (tsInstruction A n c xs)) (hn : n ≤ 1048576) (hm0 : 0 ≤ m) (hm1 : m ≤ 4503599627370496) :
    Calls Try.prog 11 #[.slice A n c, .int .i64 m] w fun e w' => e = .returned (.int .i64 (m + (n : Int) * 4)) ∧ Own w' B (tsInstruction A n c (mksInstruction m n)) ∧ w.grownBy w' (blk A) := by
  have hl : xs.length = n := ho.rd.lenS posInstruction cInstruction_len
  subst hl
  by_cases h0 : xs.length = 0
  · have hxs : xs = [] := List.eq_nil_of_length_eq_zero h0
    subst hxs
    go_enter Try.func11, Try.ntmps11
    go_wp2
    refine wp_loop_rounds 1 ?_
    rw [rounds_succ]
    go_wp2
    go_ret
    exact ⟨by simp, by simpa [mksInstruction] using ho, World.grownBy.refl _ _⟩
  · obtain ⟨g, hA⟩ : ∃ g, A = some ⟨g, 0, none⟩ := by
      rcases ho.2 with ⟨_, h⟩ | ⟨g, cap, cur, hv, _⟩
      · exact absurd h h0
      · simp only [Value.slice.injEq] at hv
        exact ⟨g, hv.1⟩
    subst hA
    have HO := Lib.hid ho
    clear ho
    go_enter Try.func11, Try.ntmps11
    go_wp2
    go_loopw [1, 5] (fun a i wr => ∃ (k : Nat) (q : Int), k ≤ xs.length ∧ i = .int .i64 k ∧ a = .int .i64 q ∧ 0 ≤ q ∧ q ≤ 4503599637370496 ∧ Hid (q = m + (k : Int) * 4) ∧ Own wr B (tsInstruction (some ⟨g, 0, none⟩) xs.length c ((mksInstruction m xs.length).take k ++ xs.drop k)) ∧ w.grownBy wr (some g))
      (fun _ i _ => xs.length - (intOf i).toNat)
    case atStart => exact ⟨0, m, Nat.zero_le _, rfl, rfl, hm0, by omega, by show m = m + ((0 : Nat) : Int) * 4; omega, by simpa using HO.out, World.grownBy.refl _ _⟩
    case round =>
      obtain ⟨k, q, hk, rfl, rfl, hq0, hq1, hq, hO, hG⟩ := hrel
      by_cases hlt : k < xs.length
      · obtain ⟨x, hx⟩ : ∃ x, ((mksInstruction m xs.length).take k ++ xs.drop k)[k]? = some x := by
          refine ⟨_, List.getElem?_eq_getElem ?_⟩
          simp [mksInstruction_length]; omega
        have y0 : ∃ u, wr.cell? ⟨g, k * 4, none⟩ = some u := ⟨_, own_cellS (j := 0) cInstruction_len hO hx hlt (by decide) rfl⟩
        obtain ⟨u0, y0⟩ := y0
        have y1 : ∃ u, wr.cell? ⟨g, k * 4 + 1, none⟩ = some u := ⟨_, own_cellS (j := 1) cInstruction_len hO hx hlt (by decide) rfl⟩
        obtain ⟨u1, y1⟩ := y1
        have y2 : ∃ u, wr.cell? ⟨g, k * 4 + 2, none⟩ = some u := ⟨_, own_cellS (j := 2) cInstruction_len hO hx hlt (by decide) rfl⟩
        obtain ⟨u2, y2⟩ := y2
        have y3 : ∃ u, wr.cell? ⟨g, k * 4 + 3, none⟩ = some u := ⟨_, own_cellS (j := 3) cInstruction_len hO hx hlt (by decide) rfl⟩
        obtain ⟨u3, y3⟩ := y3
        have hfz : ∀ j, wr.frozen? ⟨g, j, none⟩ = false := fun j => World.ownsRow.frozenAt hO j
        have P2 := own_putAll (cInstruction (mkInstruction q)) wr _ (k * 4) hO
        have hlen : k < ((mksInstruction m xs.length).take k ++ xs.drop k).length := by simp [mksInstruction_length]; omega
        have hmix : ((mksInstruction m xs.length).take k ++ xs.drop k).set k (mkInstruction q) = (mksInstruction m xs.length).take (k + 1) ++ xs.drop (k + 1) :=
          set_mix _ xs k _ (by rw [hq.out]; exact mksInstruction_get hlt) hlt
        rw [J_set cInstruction_len _ k hlen (mkInstruction q), hmix] at P2
        have HP2 := Lib.hid P2
        clear P2 hO hmix hlen hx
        go_wp2
        go_roundw
        case rel => exact ⟨k + 1, q + 1 + 1 + 1 + 1, by omega, by go_num, rfl, by omega, by have := hq.out; omega, by have := hq.out; show q + 1 + 1 + 1 + 1 = m + ((k + 1 : Nat) : Int) * 4; omega, HP2.out.1, World.grownBy.trans hG HP2.out.2⟩
        case measure => simp [intOf]; omega
      · have hkn : k = xs.length := by omega
        have HO := Lib.hid hO
        clear hO
        go_wp2
        go_ret
        have := HO.out
        subst hkn
        refine ⟨ret_int hq.out, ?_, hG⟩
        have e : (mksInstruction m xs.length).take xs.length ++ xs.drop xs.length = mksInstruction m xs.length := by simp [List.take_of_length_le (Nat.le_of_eq (mksInstruction_length m xs.length))]
        rw [e] at this
        exact this

end Go.Proofs.Ytlahpnihnpmgoaa
