/- Contracts of markEntryS, heldEntryS. Lengths at most 2^20. -/
import Derived.Test.YtkgpdiajnjekcaaStEntry
namespace Go.Proofs.Ytkgpdiajnjekcaa
open Go.RowKit
set_option linter.unusedVariables false
set_option linter.unusedSimpArgs false

/-- the record that is laid at the number q -/
def mkEntry (q : Int) : REntry := ⟨(q), ((q + 1) % 3 == 0)⟩
def mksEntry (q : Int) (n : Nat) : List REntry := (List.range n).map fun i : Nat => mkEntry (q + (i : Int) * 2)
theorem mksEntry_length (q : Int) (n : Nat) : (mksEntry q n).length = n := by simp [mksEntry]
theorem mksEntry_get {q : Int} {n i : Nat} (h : i < n) : (mksEntry q n)[i]? = some (mkEntry (q + (i : Int) * 2)) := by simp [mksEntry, h]

set_option maxHeartbeats 4000000 in
theorem markEntryS_any (A : Option Addr) (n c B : Nat) (xs : List REntry) (m : Int) (w : World) (ho : Own w B (tsEntry A n c xs)) (hn : n ≤ 1048576) (hm0 : 0 ≤ m) (hm1 : m ≤ 4503599627370496) :
    Calls Try.prog 114 #[.slice A n c, .int .i64 m] w fun e w' => e = .returned (.int .i64 (m + (n : Int) * 2)) ∧ Own w' B (tsEntry A n c (mksEntry m n)) ∧ w.grownBy w' (blk A) := by
  have hl : xs.length = n := ho.rd.lenS posEntry cEntry_len
  subst hl
  by_cases h0 : xs.length = 0
  · have hxs : xs = [] := List.eq_nil_of_length_eq_zero h0
    subst hxs
    go_enter Try.func114, Try.ntmps114
    go_wp2
    refine wp_loop_rounds 1 ?_
    rw [rounds_succ]
    go_wp2
    go_ret
    exact ⟨by simp, by simpa [mksEntry] using ho, World.grownBy.refl _ _⟩
  · obtain ⟨g, hA⟩ : ∃ g, A = some ⟨g, 0, none⟩ := by
      rcases ho.2 with ⟨_, h⟩ | ⟨g, cap, cur, hv, _⟩
      · exact absurd h h0
      · simp only [Value.slice.injEq] at hv
        exact ⟨g, hv.1⟩
    subst hA
    have HO := Lib.hid ho
    clear ho
    go_enter Try.func114, Try.ntmps114
    go_wp2
    go_loopw [1, 5] (fun a i wr => ∃ (k : Nat) (q : Int), k ≤ xs.length ∧ i = .int .i64 k ∧ a = .int .i64 q ∧ 0 ≤ q ∧ q ≤ 4503599637370496 ∧ Hid (q = m + (k : Int) * 2) ∧ Own wr B (tsEntry (some ⟨g, 0, none⟩) xs.length c ((mksEntry m xs.length).take k ++ xs.drop k)) ∧ w.grownBy wr (some g))
      (fun _ i _ => xs.length - (intOf i).toNat)
    case atStart => exact ⟨0, m, Nat.zero_le _, rfl, rfl, hm0, by omega, by show m = m + ((0 : Nat) : Int) * 2; omega, by simpa using HO.out, World.grownBy.refl _ _⟩
    case round =>
      obtain ⟨k, q, hk, rfl, rfl, hq0, hq1, hq, hO, hG⟩ := hrel
      by_cases hlt : k < xs.length
      · obtain ⟨x, hx⟩ : ∃ x, ((mksEntry m xs.length).take k ++ xs.drop k)[k]? = some x := by
          refine ⟨_, List.getElem?_eq_getElem ?_⟩
          simp [mksEntry_length]; omega
        have y0 : ∃ u, wr.cell? ⟨g, k * 2, none⟩ = some u := ⟨_, own_cellS (j := 0) cEntry_len hO hx hlt (by decide) rfl⟩
        obtain ⟨u0, y0⟩ := y0
        have y1 : ∃ u, wr.cell? ⟨g, k * 2 + 1, none⟩ = some u := ⟨_, own_cellS (j := 1) cEntry_len hO hx hlt (by decide) rfl⟩
        obtain ⟨u1, y1⟩ := y1
        have hfz : ∀ j, wr.frozen? ⟨g, j, none⟩ = false := fun j => World.ownsRow.frozenAt hO j
        have P2 := own_putAll (cEntry (mkEntry q)) wr _ (k * 2) hO
        have hlen : k < ((mksEntry m xs.length).take k ++ xs.drop k).length := by simp [mksEntry_length]; omega
        have hmix : ((mksEntry m xs.length).take k ++ xs.drop k).set k (mkEntry q) = (mksEntry m xs.length).take (k + 1) ++ xs.drop (k + 1) :=
          set_mix _ xs k _ (by rw [hq.out]; exact mksEntry_get hlt) hlt
        rw [J_set cEntry_len _ k hlen (mkEntry q), hmix] at P2
        have HP2 := Lib.hid P2
        clear P2 hO hmix hlen hx
        go_wp2
        go_roundw
        case rel => exact ⟨k + 1, q + 1 + 1, by omega, by go_num, rfl, by omega, by have := hq.out; omega, by have := hq.out; show q + 1 + 1 = m + ((k + 1 : Nat) : Int) * 2; omega, HP2.out.1, World.grownBy.trans hG HP2.out.2⟩
        case measure => simp [intOf]; omega
      · have hkn : k = xs.length := by omega
        have HO := Lib.hid hO
        clear hO
        go_wp2
        go_ret
        have := HO.out
        subst hkn
        refine ⟨ret_int hq.out, ?_, hG⟩
        have e : (mksEntry m xs.length).take xs.length ++ xs.drop xs.length = mksEntry m xs.length := by simp [List.take_of_length_le (Nat.le_of_eq (mksEntry_length m xs.length))]
        rw [e] at this
        exact this


set_option maxHeartbeats 4000000 in
theorem heldEntryS_marks (A : Option Addr) (n c : Nat) (m : Int) (w : World) (hr : Rd w 2 A n (J cEntry (mksEntry m n))) (hn : n ≤ 1048576) (hm0 : 0 ≤ m) (hm1 : m ≤ 4503599627370496) :
    Calls Try.prog 115 #[.slice A n c, .int .i64 m] w fun e w' => e = .returned (.int .i64 (m + (n : Int) * 2)) ∧ Below w.heap.size w w' := by
  go_enter Try.func115, Try.ntmps115
  go_wp2
  go_loopw [1, 5] (fun a i wr => ∃ (k : Nat) (q : Int), k ≤ n ∧ i = .int .i64 k ∧ a = .int .i64 q ∧ 0 ≤ q ∧ q ≤ 4503599637370496 ∧ Hid (q = m + (k : Int) * 2) ∧ Below w.heap.size w wr) (fun _ i _ => n - (intOf i).toNat)
  case atStart => exact ⟨0, m, Nat.zero_le _, rfl, rfl, hm0, by omega, by show m = m + ((0 : Nat) : Int) * 2; omega, Below.refl _ _⟩
  case round =>
    obtain ⟨k, q, hk, rfl, rfl, hq0, hq1, hq, hB⟩ := hrel
    by_cases hlt : k < n
    · obtain ⟨b, o, x, rfl, hbl, hxk, hc0, hc1⟩ := atEntry (hr.keep hB) hlt
      obtain rfl : x = mkEntry q := by
        have := hxk.out
        rw [mksEntry_get hlt, ← hq.out] at this
        exact (Option.some.inj this).symm
      simp only [mkEntry] at hc0 hc1
      go_wp2
      go_roundw
      case rel => exact ⟨k + 1, q + 1 + 1, by omega, by go_num, rfl, by omega, by have := hq.out; omega, by have := hq.out; show q + 1 + 1 = m + ((k + 1 : Nat) : Int) * 2; omega, hB⟩
      case measure => simp [intOf]; omega
    · have hkn : k = n := by omega
      subst hkn
      go_wp2
      go_ret
      exact ⟨ret_int hq.out, hB⟩

end Go.Proofs.Ytkgpdiajnjekcaa
