/- Contracts of markTrapS. Lengths at most 2^20. -/
import Derived.Test.YtoofkdlpjgokdaaStTrap
namespace Go.Proofs.Ytoofkdlpjgokdaa
open Go.RowKit
set_option linter.unusedVariables false
set_option linter.unusedSimpArgs false

/-- the record that is laid at the number q -/
def mkTrap (q : Int) : RTrap := ⟨(q), (q + 1), ((q + 1 + 1) % 3 == 0), (q + 1 + 1 + 1), (q + 1 + 1 + 1 + 1)⟩
def mksTrap (q : Int) (n : Nat) : List RTrap := (List.range n).map fun i : Nat => mkTrap (q + (i : Int) * 5)
theorem mksTrap_length (q : Int) (n : Nat) : (mksTrap q n).length = n := by simp [mksTrap]
theorem mksTrap_get {q : Int} {n i : Nat} (h : i < n) : (mksTrap q n)[i]? = some (mkTrap (q + (i : Int) * 5)) := by simp [mksTrap, h]

set_option maxHeartbeats 4000000 in
theorem markTrapS_any (A : Option Addr) (n c B : Nat) (xs : List RTrap) (m : Int) (w : World) (ho : Own w B (tsTrap A n c xs)) (hn : n ≤ 1048576) (hm0 : 0 ≤ m) (hm1 : m ≤ 4503599627370496) :
    Calls Try.prog 44 #[.slice A n c, .int .i64 m] w fun e w' => e = .returned (.int .i64 (m + (n : Int) * 5)) ∧ Own w' B (tsTrap A n c (mksTrap m n)) ∧ w.grownBy w' (blk A) := by
  have hl : xs.length = n := ho.rd.lenS posTrap cTrap_len
  subst hl
  by_cases h0 : xs.length = 0
  · have hxs : xs = [] := List.eq_nil_of_length_eq_zero h0
    subst hxs
    go_enter Try.func44, Try.ntmps44
    go_wp2
    refine wp_loop_rounds 1 ?_
    rw [rounds_succ]
    go_wp2
    go_ret
    exact ⟨by simp, by simpa [mksTrap] using ho, World.grownBy.refl _ _⟩
  · obtain ⟨g, hA⟩ : ∃ g, A = some ⟨g, 0, none⟩ := by
      rcases ho.2 with ⟨_, h⟩ | ⟨g, cap, cur, hv, _⟩
      · exact absurd h h0
      · simp only [Value.slice.injEq] at hv
        exact ⟨g, hv.1⟩
    subst hA
    have HO := Lib.hid ho
    clear ho
    go_enter Try.func44, Try.ntmps44
    go_wp2
    go_loopw [1, 5] (fun a i wr => ∃ (k : Nat) (q : Int), k ≤ xs.length ∧ i = .int .i64 k ∧ a = .int .i64 q ∧ 0 ≤ q ∧ q ≤ 4503599637370496 ∧ Hid (q = m + (k : Int) * 5) ∧ Own wr B (tsTrap (some ⟨g, 0, none⟩) xs.length c ((mksTrap m xs.length).take k ++ xs.drop k)) ∧ w.grownBy wr (some g))
      (fun _ i _ => xs.length - (intOf i).toNat)
    case atStart => exact ⟨0, m, Nat.zero_le _, rfl, rfl, hm0, by omega, by show m = m + ((0 : Nat) : Int) * 5; omega, by simpa using HO.out, World.grownBy.refl _ _⟩
    case round =>
      obtain ⟨k, q, hk, rfl, rfl, hq0, hq1, hq, hO, hG⟩ := hrel
      by_cases hlt : k < xs.length
      · obtain ⟨x, hx⟩ : ∃ x, ((mksTrap m xs.length).take k ++ xs.drop k)[k]? = some x := by
          refine ⟨_, List.getElem?_eq_getElem ?_⟩
          simp [mksTrap_length]; omega
        have y0 : ∃ u, wr.cell? ⟨g, k * 5, none⟩ = some u := ⟨_, own_cellS (j := 0) cTrap_len hO hx hlt (by decide) rfl⟩
        obtain ⟨u0, y0⟩ := y0
        have y1 : ∃ u, wr.cell? ⟨g, k * 5 + 1, none⟩ = some u := ⟨_, own_cellS (j := 1) cTrap_len hO hx hlt (by decide) rfl⟩
        obtain ⟨u1, y1⟩ := y1
        have y2 : ∃ u, wr.cell? ⟨g, k * 5 + 2, none⟩ = some u := ⟨_, own_cellS (j := 2) cTrap_len hO hx hlt (by decide) rfl⟩
        obtain ⟨u2, y2⟩ := y2
        have y3 : ∃ u, wr.cell? ⟨g, k * 5 + 3, none⟩ = some u := ⟨_, own_cellS (j := 3) cTrap_len hO hx hlt (by decide) rfl⟩
        obtain ⟨u3, y3⟩ := y3
        have y4 : ∃ u, wr.cell? ⟨g, k * 5 + 4, none⟩ = some u := ⟨_, own_cellS (j := 4) cTrap_len hO hx hlt (by decide) rfl⟩
        obtain ⟨u4, y4⟩ := y4
        have hfz : ∀ j, wr.frozen? ⟨g, j, none⟩ = false := fun j => World.ownsRow.frozenAt hO j
        have P2 := own_putAll (cTrap (mkTrap q)) wr _ (k * 5) hO
        have hlen : k < ((mksTrap m xs.length).take k ++ xs.drop k).length := by simp [mksTrap_length]; omega
        have hmix : ((mksTrap m xs.length).take k ++ xs.drop k).set k (mkTrap q) = (mksTrap m xs.length).take (k + 1) ++ xs.drop (k + 1) :=
          set_mix _ xs k _ (by rw [hq.out]; exact mksTrap_get hlt) hlt
        rw [J_set cTrap_len _ k hlen (mkTrap q), hmix] at P2
        have HP2 := Lib.hid P2
        clear P2 hO hmix hlen hx
        go_wp2
        go_roundw
        case rel => exact ⟨k + 1, q + 1 + 1 + 1 + 1 + 1, by omega, by go_num, rfl, by omega, by have := hq.out; omega, by have := hq.out; show q + 1 + 1 + 1 + 1 + 1 = m + ((k + 1 : Nat) : Int) * 5; omega, HP2.out.1, World.grownBy.trans hG HP2.out.2⟩
        case measure => simp [intOf]; omega
      · have hkn : k = xs.length := by omega
        have HO := Lib.hid hO
        clear hO
        go_wp2
        go_ret
        have := HO.out
        subst hkn
        refine ⟨ret_int hq.out, ?_, hG⟩
        have e : (mksTrap m xs.length).take xs.length ++ xs.drop xs.length = mksTrap m xs.length := by simp [List.take_of_length_le (Nat.le_of_eq (mksTrap_length m xs.length))]
        rw [e] at this
        exact this

end Go.Proofs.Ytoofkdlpjgokdaa
