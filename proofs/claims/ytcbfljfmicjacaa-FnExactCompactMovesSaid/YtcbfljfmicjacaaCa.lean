/- Contracts of eqIntA2, eqIntA2S, markIntA2S, heldIntA2S: lists of pairs. Lengths at most 2^20. -/
import Derived.Test.YtcbfljfmicjacaaSmall
import Derived.Test.YtcbfljfmicjacaaCm
namespace Go.Proofs.Ytcbfljfmicjacaa
open Go.RowKit
set_option linter.unusedVariables false
set_option linter.unusedSimpArgs false

abbrev tsA2 (A : Option Addr) (n c : Nat) (xs : List RA2) : Thing := ⟨56, 2, A, n, c, J cA2 xs⟩
theorem Try.info56 : (Try.prog.info? 56).map (fun i => (i.zero, i.size, i.bytes)) = some (some (.agg #[.int .i64 0, .int .i64 0]), 2, 16) := by kernel_rfl
theorem atA2 {w : World} {A : Option Addr} {n k : Nat} {xs : List RA2} (h : Rd w 2 A n (J cA2 xs)) (hk : k < n) :
    ∃ b o x, A = some ⟨b, o, none⟩ ∧ b < w.heap.size ∧ Hid (xs[k]? = some x) ∧ w.cell? ⟨b, o + k * 2, none⟩ = some (.int .i64 x.f0) ∧ w.cell? ⟨b, o + k * 2 + 1, none⟩ = some (.int .i64 x.f1) := by
  obtain ⟨b, o, x, hA, hb, hx, hc⟩ := h.atS posA2 cA2_len hk
  exact ⟨b, o, x, hA, hb, hx, hc 0 _ rfl, by rw [Nat.add_assoc]; exact hc 1 _ rfl⟩

set_option maxHeartbeats 1000000 in
theorem eqIntA2_same (x : RA2) (w : World) :
    Calls Try.prog 70 #[vA2 x, vA2 x] w fun e w' => e = .returned (.bool true) ∧ Below w.heap.size w w' := by
  have BX := (Box.new w 56 #[.int .i64 x.f0, .int .i64 x.f1]).alloc (.cells #[.int .i64 x.f0, .int .i64 x.f1] 56)
  have BY := Box.new1 w (.cells #[.int .i64 x.f0, .int .i64 x.f1] 56) 56 #[.int .i64 x.f0, .int .i64 x.f1]
  have hb0 := (below_alloc w (.cells #[.int .i64 x.f0, .int .i64 x.f1] 56)).alloc (by simp) (.cells #[.int .i64 x.f0, .int .i64 x.f1] 56)
  obtain ⟨W, hW⟩ : ∃ W, W = (w.alloc (.cells #[.int .i64 x.f0, .int .i64 x.f1] 56)).alloc (.cells #[.int .i64 x.f0, .int .i64 x.f1] 56) := ⟨_, rfl⟩
  rw [← hW] at BX BY hb0
  have HW := Lib.hid hW
  clear hW
  go_enter Try.func70, Try.ntmps70
  go_wp2
  rw [← HW.out]
  go_loopw [5] (fun i wr => ∃ k : Nat, k ≤ 2 ∧ i = .int .i64 k ∧ Below W.heap.size W wr) (fun i _ => 2 - (intOf i).toNat)
  case atStart => exact ⟨0, by omega, rfl, Below.refl _ _⟩
  case round =>
    obtain ⟨k, hk, rfl, hB⟩ := hrel
    have C1 := (BX.keep hB).cell
    have C2 := (BY.keep hB).cell
    obtain rfl | rfl | rfl : k = 0 ∨ k = 1 ∨ k = 2 := by omega
    · go_wp2
      go_quiet (fail)
      go_wp2
      go_roundw
      case rel => exact ⟨1, by omega, rfl, below_drewN hB _⟩
      case measure => simp [intOf]
    · go_wp2
      go_quiet (fail)
      go_wp2
      go_roundw
      case rel => exact ⟨2, by omega, rfl, below_drewN hB _⟩
      case measure => simp [intOf]
    · go_wp2
      go_ret
      exact ⟨rfl, below_next hb0 hB⟩

set_option maxHeartbeats 2000000 in
theorem eqIntA2S_same (A A' : Option Addr) (n c c' : Nat) (xs : List RA2) (w : World) (hr : Rd w 2 A n (J cA2 xs)) (hr' : Rd w 2 A' n (J cA2 xs)) (hn : n ≤ 1048576) :
    Calls Try.prog 39 #[.slice A n c, .slice A' n c'] w fun e w' => e = .returned (.bool true) ∧ Below w.heap.size w w' := by
  have hnb : ((n : Int) != (n : Int)) = false := by simp
  go_enter Try.func39, Try.ntmps39
  go_wp2
  go_loopw [5] (fun i wr => ∃ k : Nat, k ≤ n ∧ i = .int .i64 k ∧ Below w.heap.size w wr) (fun i _ => n - (intOf i).toNat)
  case atStart => exact ⟨0, Nat.zero_le _, rfl, Below.refl _ _⟩
  case round =>
    obtain ⟨k, hk, rfl, hB⟩ := hrel
    clear hnb
    by_cases hlt : k < n
    · obtain ⟨b, o, x, rfl, hbl, hxk, hc0, hc1⟩ := atA2 (hr.keep hB) hlt
      obtain ⟨b', o', y, rfl, hbl', hyk, hd0, hd1⟩ := atA2 (hr'.keep hB) hlt
      obtain rfl : x = y := Option.some.inj (hxk.out.symm.trans hyk.out)
      have ex0 : ∀ q : Ext wr, q.1.cell? ⟨b, o + k * 2, none⟩ = some (.int .i64 x.f0) := fun q => (Ext.cell b hbl q _).trans hc0
      have ex1 : ∀ q : Ext wr, q.1.cell? ⟨b, o + k * 2 + 1, none⟩ = some (.int .i64 x.f1) := fun q => (Ext.cell b hbl q _).trans hc1
      have ey0 : ∀ q : Ext wr, q.1.cell? ⟨b', o' + k * 2, none⟩ = some (.int .i64 x.f0) := fun q => (Ext.cell b' hbl' q _).trans hd0
      have ey1 : ∀ q : Ext wr, q.1.cell? ⟨b', o' + k * 2 + 1, none⟩ = some (.int .i64 x.f1) := fun q => (Ext.cell b' hbl' q _).trans hd1
      have h0 : (0 : Int) ≤ (k : Int) := by omega
      have h1 : (k : Int) < (n : Int) := by omega
      clear hc0 hd0 hc1 hd1
      go_wp2_with fail
      refine wp_region_ext (by kernel_rfl) (by kernel_rfl) ?_
      repeat (go_big_quiet_step ((go_at_call 70; refine calls_ext (eqIntA2_same x _))))
      refine wpQuiet_nil ?_
      rintro _ ⟨⟨w1, hb1⟩, rfl⟩
      go_wp2
      go_roundw
      case rel => exact ⟨k + 1, by omega, by go_num, below_next hB hb1⟩
      case measure => simp [intOf]; omega
    · go_wp2
      go_ret
      exact ⟨rfl, hB⟩

def mkA2 (q : Int) : RA2 := ⟨q, q + 1⟩
def mksA2 (q : Int) (n : Nat) : List RA2 := (List.range n).map fun i : Nat => mkA2 (q + (i : Int) * 2)
theorem mksA2_length (q : Int) (n : Nat) : (mksA2 q n).length = n := by simp [mksA2]
theorem mksA2_get {q : Int} {n i : Nat} (h : i < n) : (mksA2 q n)[i]? = some (mkA2 (q + (i : Int) * 2)) := by simp [mksA2, h]

set_option maxHeartbeats 4000000 in
theorem markIntA2S_any (A : Option Addr) (n c B : Nat) (xs : List RA2) (m : Int) (w : World) (ho : Own w B (tsA2 A n c xs)) (hn : n ≤ 1048576) (hm0 : 0 ≤ m) (hm1 : m ≤ 4503599627370496) :
    Calls Try.prog 40 #[.slice A n c, .int .i64 m] w fun e w' => e = .returned (.int .i64 (m + (n : Int) * 2)) ∧ Own w' B (tsA2 A n c (mksA2 m n)) ∧ w.grownBy w' (blk A) := by
  have hl : xs.length = n := ho.rd.lenS posA2 cA2_len
  subst hl
  by_cases h0 : xs.length = 0
  · have hxs : xs = [] := List.eq_nil_of_length_eq_zero h0
    subst hxs
    go_enter Try.func40, Try.ntmps40
    go_wp2
    refine wp_loop_rounds 1 ?_
    rw [rounds_succ]
    go_wp2
    go_ret
    exact ⟨by simp, by simpa [mksA2] using ho, World.grownBy.refl _ _⟩
  · obtain ⟨g, hA, hg1, hg2⟩ := own_someS ho (by omega)
    subst hA
    have HO := Lib.hid ho
    clear ho
    go_enter Try.func40, Try.ntmps40
    go_wp2
    go_loopw [1, 5] (fun a i wr => ∃ (k : Nat) (q : Int), k ≤ xs.length ∧ i = .int .i64 k ∧ a = .int .i64 q ∧ 0 ≤ q ∧ q ≤ 4503599637370496 ∧ Hid (q = m + (k : Int) * 2) ∧ Own wr B (tsA2 (some ⟨g, 0, none⟩) xs.length c ((mksA2 m xs.length).take k ++ xs.drop k)) ∧ w.grownBy wr (some g))
      (fun _ i _ => xs.length - (intOf i).toNat)
    case atStart => exact ⟨0, m, Nat.zero_le _, rfl, rfl, hm0, by omega, by show m = m + ((0 : Nat) : Int) * 2; omega, by simpa using HO.out, World.grownBy.refl _ _⟩
    case round =>
      obtain ⟨k, q, hk, rfl, rfl, hq0, hq1, hq, hO, hG⟩ := hrel
      by_cases hlt : k < xs.length
      · obtain ⟨x, hx⟩ : ∃ x, ((mksA2 m xs.length).take k ++ xs.drop k)[k]? = some x := by
          refine ⟨_, List.getElem?_eq_getElem ?_⟩
          simp [mksA2_length]; omega
        have y0 : ∃ u, wr.cell? ⟨g, k * 2, none⟩ = some u := ⟨_, own_cellS (j := 0) cA2_len hO hx hlt (by decide) rfl⟩
        obtain ⟨u0, y0⟩ := y0
        have y1 : ∃ u, wr.cell? ⟨g, k * 2 + 1, none⟩ = some u := ⟨_, own_cellS (j := 1) cA2_len hO hx hlt (by decide) rfl⟩
        obtain ⟨u1, y1⟩ := y1
        have hfz : ∀ j, wr.frozen? ⟨g, j, none⟩ = false := fun j => World.ownsRow.frozenAt hO j
        have P2 := own_putAll (cA2 (mkA2 q)) wr _ (k * 2) hO
        have hlen : k < ((mksA2 m xs.length).take k ++ xs.drop k).length := by simp [mksA2_length]; omega
        have hmix : ((mksA2 m xs.length).take k ++ xs.drop k).set k (mkA2 q) = (mksA2 m xs.length).take (k + 1) ++ xs.drop (k + 1) :=
          set_mix _ xs k _ (by rw [hq.out]; exact mksA2_get hlt) hlt
        rw [J_set cA2_len _ k hlen (mkA2 q), hmix] at P2
        have HP2 := Lib.hid P2
        clear P2 hO hmix hlen hx
        go_wp2
        refine wp_loop_rounds 3 ?_
        rw [rounds_succ]
        go_wp2
        rw [rounds_succ]
        go_wp2
        rw [rounds_succ]
        go_wp2
        go_roundw
        case rel => exact ⟨k + 1, q + 1 + 1, by omega, by go_num, rfl, by omega, by have := hq.out; omega, by have := hq.out; show q + 1 + 1 = m + ((k + 1 : Nat) : Int) * 2; omega, HP2.out.1, World.grownBy.trans hG HP2.out.2⟩
        case measure => simp [intOf]; omega
      · have hkn : k = xs.length := by omega
        have HO := Lib.hid hO
        clear hO
        go_wp2
        go_ret
        have := HO.out
        subst hkn
        refine ⟨ret_int hq.out, ?_, hG⟩
        have e : (mksA2 m xs.length).take xs.length ++ xs.drop xs.length = mksA2 m xs.length := by simp [List.take_of_length_le (Nat.le_of_eq (mksA2_length m xs.length))]
        rw [e] at this
        exact this

set_option maxHeartbeats 4000000 in
theorem heldIntA2S_marks (A : Option Addr) (n c : Nat) (m : Int) (w : World) (hr : Rd w 2 A n (J cA2 (mksA2 m n))) (hn : n ≤ 1048576) (hm0 : 0 ≤ m) (hm1 : m ≤ 4503599627370496) :
    Calls Try.prog 41 #[.slice A n c, .int .i64 m] w fun e w' => e = .returned (.int .i64 (m + (n : Int) * 2)) ∧ Below w.heap.size w w' := by
  go_enter Try.func41, Try.ntmps41
  go_wp2
  go_loopw [1, 5] (fun a i wr => ∃ (k : Nat) (q : Int), k ≤ n ∧ i = .int .i64 k ∧ a = .int .i64 q ∧ 0 ≤ q ∧ q ≤ 4503599637370496 ∧ Hid (q = m + (k : Int) * 2) ∧ Below w.heap.size w wr) (fun _ i _ => n - (intOf i).toNat)
  case atStart => exact ⟨0, m, Nat.zero_le _, rfl, rfl, hm0, by omega, by show m = m + ((0 : Nat) : Int) * 2; omega, Below.refl _ _⟩
  case round =>
    obtain ⟨k, q, hk, rfl, rfl, hq0, hq1, hq, hB⟩ := hrel
    by_cases hlt : k < n
    · obtain ⟨b, o, x, rfl, hbl, hxk, hc0, hc1⟩ := atA2 (hr.keep hB) hlt
      obtain rfl : x = mkA2 q := by
        have := hxk.out
        rw [mksA2_get hlt, ← hq.out] at this
        exact (Option.some.inj this).symm
      simp only [mkA2] at hc0 hc1
      go_wp2
      refine wp_loop_rounds 3 ?_
      rw [rounds_succ]
      go_wp2
      rw [rounds_succ]
      go_wp2
      rw [rounds_succ]
      go_wp2
      go_roundw
      case rel => exact ⟨k + 1, q + 1 + 1, by omega, by go_num, rfl, by omega, by have := hq.out; omega, by have := hq.out; show q + 1 + 1 = m + ((k + 1 : Nat) : Int) * 2; omega, hB⟩
      case measure => simp [intOf]; omega
    · have hkn : k = n := by omega
      subst hkn
      go_wp2
      go_ret
      exact ⟨ret_int hq.out, hB⟩
end Go.Proofs.Ytcbfljfmicjacaa
