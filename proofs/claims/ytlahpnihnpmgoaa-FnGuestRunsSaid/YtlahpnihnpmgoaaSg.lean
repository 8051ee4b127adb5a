/- Contracts of valueOf and l3Value. The registers are four words, the instruction is valid. -/
import Derived.Test.YtlahpnihnpmgoaaRg
namespace Go.Proofs.Ytlahpnihnpmgoaa
open Go.RowKit
set_option linter.unusedVariables false
set_option linter.unusedSimpArgs false

/-- what an instruction puts into its register -/
def vF (o n x y : Int) : Int := if o = 1 then n else if o = 2 then y else if o = 3 then (x + y) % 65536 else if o = 4 then (x - y + 65536) % 65536 else if o = 5 then bits .and .i64 x y else (x * 2 ^ n.toNat) % 65536
def puB (o : Int) : Bool := decide (1 ≤ o) && decide (o ≤ 6)
theorem shl_eq {x n : Int} (h0 : 0 ≤ x) (h1 : x ≤ 65535) (hn0 : 0 ≤ n) (hn1 : n ≤ 15) : (wrap64 (x * 2 ^ n.toNat)).tmod 65536 = (x * 2 ^ n.toNat) % 65536 := by
  have hb : 0 ≤ x * 2 ^ n.toNat ∧ x * 2 ^ n.toNat ≤ 2147483647 := by
    obtain ⟨k, rfl⟩ := Int.eq_ofNat_of_zero_le hn0
    have hk : k ≤ 15 := by omega
    simp only [Int.toNat_natCast]
    obtain rfl | rfl | rfl | rfl | rfl | rfl | rfl | rfl | rfl | rfl | rfl | rfl | rfl | rfl | rfl | rfl : k = 0 ∨ k = 1 ∨ k = 2 ∨ k = 3 ∨ k = 4 ∨ k = 5 ∨ k = 6 ∨ k = 7 ∨ k = 8 ∨ k = 9 ∨ k = 10 ∨ k = 11 ∨ k = 12 ∨ k = 13 ∨ k = 14 ∨ k = 15 := by omega
    all_goals omega
  have hw : wrap64 (x * 2 ^ n.toNat) = x * 2 ^ n.toNat := by
    unfold wrap64
    omega
  rw [hw, Int.tmod_eq_emod_of_nonneg hb.1]
theorem shl_eq2 {x n : Int} (h0 : 0 ≤ x) (h1 : x ≤ 65535) (hn0 : 0 ≤ n) (hn1 : n ≤ 15) : (wrap64 (x * 2 ^ min n.toNat 64)).tmod 65536 = (x * 2 ^ n.toNat) % 65536 := by
  have e : min n.toNat 64 = n.toNat := by omega
  rw [e]; exact shl_eq h0 h1 hn0 hn1
theorem and_in (v : Int) (m : Nat) (h0 : 0 ≤ v) (h1 : v < 9223372036854775808) (hm : m < 9223372036854775808) : bits .and .i64 v (m : Int) = ((v.toNat &&& m : Nat) : Int) := by
  obtain ⟨a, rfl⟩ := Int.eq_ofNat_of_zero_le h0
  have ha : a < 9223372036854775808 := by omega
  have hx : a &&& m < 2 ^ 63 := Nat.and_lt_two_pow _ (by omega)
  have e : ∀ q : Nat, q < 9223372036854775808 → (BitVec.ofInt 64 (q : Int)).toNat = q := fun q hq => by
    rw [BitVec.ofInt_natCast, BitVec.toNat_ofNat]; exact Nat.mod_eq_of_lt (by omega)
  show IntKind.i64.wrap ((BitVec.ofInt 64 (a : Int) &&& BitVec.ofInt 64 (m : Int)).toNat : Int) = _
  rw [BitVec.toNat_and, e a ha, e m hm, IntKind.wrap_i64, Int.toNat_natCast]
  omega
theorem bits_and_le {x y : Int} (ha0 : 0 ≤ x) (ha1 : x ≤ 65535) (hb0 : 0 ≤ y) (hb1 : y ≤ 65535) : 0 ≤ bits .and .i64 x y ∧ bits .and .i64 x y ≤ 65535 := by
  obtain ⟨m, rfl⟩ := Int.eq_ofNat_of_zero_le hb0
  rw [and_in x m ha0 (by omega) (by omega)]
  have := Nat.and_le_left (n := x.toNat) (m := m)
  omega
theorem ret_ib {a a' : Int} {b b' : Bool} (h : a = a') (k : b = b') : Ending.returned (.tuple #[.int .i64 a, .bool b]) = .returned (.tuple #[.int .i64 a', .bool b']) := by rw [h, k]
theorem vF_bd {o n x y : Int} (ha0 : 0 ≤ x) (ha1 : x ≤ 65535) (hb0 : 0 ≤ y) (hb1 : y ≤ 65535) (hn0 : 0 ≤ n) (hn1 : n ≤ 65535) : 0 ≤ vF o n x y ∧ vF o n x y ≤ 65535 := by
  unfold vF
  (repeat' split)
  all_goals try omega
  exact bits_and_le ha0 ha1 hb0 hb1

set_option maxHeartbeats 4000000 in
theorem valueOf_any (o n : Int) (ja jb : Nat) (A : Option Addr) (c : Nat) (rs : List Int) (x y : Int) (w : World) (hr : Rd w 1 A 4 (I rs)) (ha : ja < 4) (hb : jb < 4) (hra : Hid (rs[ja]? = some x)) (hrb : Hid (rs[jb]? = some y))
    (ha0 : 0 ≤ x) (ha1 : x ≤ 65535) (hb0 : 0 ≤ y) (hb1 : y ≤ 65535) (hn0 : 0 ≤ n) (hn1 : n ≤ 65535) (hn2 : o = 6 → n ≤ 15) :
    Calls Try.prog 61 #[insV o ja jb n, .slice A 4 c] w fun e w' => e = .returned (.tuple #[.int .i64 (selI (puB o) (vF o n x y)), .bool (puB o)]) ∧ Below w.heap.size w w' := by
  have BX := Box.new w 52 #[.int .i64 o, .int .i64 (ja : Int), .int .i64 (jb : Int), .int .i64 n]
  have C0 := BX.cell
  obtain ⟨b, of, x', rfl, hbl, hxk, hc⟩ := (hr.keep (below_alloc w (.cells #[.int .i64 o, .int .i64 (ja : Int), .int .i64 (jb : Int), .int .i64 n] 52))).at_ ha
  obtain ⟨b', of', y', he, hbl', hyk, hd⟩ := (hr.keep (below_alloc w (.cells #[.int .i64 o, .int .i64 (ja : Int), .int .i64 (jb : Int), .int .i64 n] 52))).at_ hb
  cases he
  obtain rfl := Option.some.inj (hxk.out.symm.trans hra.out)
  obtain rfl := Option.some.inj (hyk.out.symm.trans hrb.out)
  have HN := Lib.hid hn2
  have h0 : (0 : Int) ≤ (ja : Int) := by omega
  have h1 : (ja : Int) < (4 : Int) := by omega
  have h2 : (0 : Int) ≤ (jb : Int) := by omega
  have h3 : (jb : Int) < (4 : Int) := by omega
  clear BX hn2
  have ho : o = 1 ∨ o = 2 ∨ o = 3 ∨ o = 4 ∨ o = 5 ∨ o = 6 ∨ (o < 1 ∨ 6 < o) := by omega
  rcases ho with rfl | rfl | rfl | rfl | rfl | rfl | ho
  · go_enter Try.func61, Try.ntmps61
    go_wp2
    go_quiet (fail)
    go_wp2
    go_ret2
    exact ⟨rfl, below_drewN (below_alloc _ _) _⟩
  · go_enter Try.func61, Try.ntmps61
    go_wp2
    go_quiet (fail)
    go_wp2
    go_ret2
    exact ⟨rfl, below_drewN (below_alloc _ _) _⟩
  · go_enter Try.func61, Try.ntmps61
    go_wp2
    go_quiet (fail)
    go_wp2
    go_ret2
    exact ⟨rfl, below_drewN (below_alloc _ _) _⟩
  · go_enter Try.func61, Try.ntmps61
    go_wp2
    go_quiet (fail)
    go_wp2
    go_ret2
    exact ⟨rfl, below_drewN (below_alloc _ _) _⟩
  · go_enter Try.func61, Try.ntmps61
    go_wp2
    go_quiet (fail)
    go_wp2
    go_ret2
    exact ⟨rfl, below_drewN (below_alloc _ _) _⟩
  · go_enter Try.func61, Try.ntmps61
    go_wp2
    go_quiet (fail)
    go_wp2
    go_ret2
    exact ⟨ret_ib (shl_eq2 ha0 ha1 hn0 (HN.out (by trivial))) rfl, below_drewN (below_alloc _ _) _⟩
  · have e0 := Lib.hid (show puB o = false by rw [Bool.eq_false_iff]; simp [puB]; omega)
    have t1 : (o == 1) = false := by rw [beq_eq_false_iff_ne]; omega
    have t2 : (o == 2) = false := by rw [beq_eq_false_iff_ne]; omega
    have t3 : (o == 3) = false := by rw [beq_eq_false_iff_ne]; omega
    have t4 : (o == 4) = false := by rw [beq_eq_false_iff_ne]; omega
    have t5 : (o == 5) = false := by rw [beq_eq_false_iff_ne]; omega
    have t6 : (o == 6) = false := by rw [beq_eq_false_iff_ne]; omega
    clear ho
    go_enter Try.func61, Try.ntmps61
    go_wp2
    go_quiet (fail)
    go_wp2
    go_ret2
    rw [e0.out]
    exact ⟨rfl, below_drewN (below_alloc _ _) _⟩

set_option maxHeartbeats 4000000 in
theorem l3Value_any (o n : Int) (ja jb : Nat) (A : Option Addr) (c : Nat) (rs : List Int) (x y : Int) (w : World) (hr : Rd w 1 A 4 (I rs)) (ha : ja < 4) (hb : jb < 4) (hra : Hid (rs[ja]? = some x)) (hrb : Hid (rs[jb]? = some y))
    (ha0 : 0 ≤ x) (ha1 : x ≤ 65535) (hb0 : 0 ≤ y) (hb1 : y ≤ 65535) (hn0 : 0 ≤ n) (hn1 : n ≤ 65535) (hn2 : o = 6 → n ≤ 15) (hp : puB o = true) :
    Calls Try.prog 62 #[insV o ja jb n, .slice A 4 c] w fun e w' => e = .returned (.int .i64 (vF o n x y)) ∧ Below w.heap.size w w' := by
  have BX := Box.new w 52 #[.int .i64 o, .int .i64 (ja : Int), .int .i64 (jb : Int), .int .i64 n]
  have C0 := BX.cell
  obtain ⟨b, of, x', rfl, hbl, hxk, hc⟩ := (hr.keep (below_alloc w (.cells #[.int .i64 o, .int .i64 (ja : Int), .int .i64 (jb : Int), .int .i64 n] 52))).at_ ha
  obtain ⟨b', of', y', he, hbl', hyk, hd⟩ := (hr.keep (below_alloc w (.cells #[.int .i64 o, .int .i64 (ja : Int), .int .i64 (jb : Int), .int .i64 n] 52))).at_ hb
  cases he
  obtain rfl := Option.some.inj (hxk.out.symm.trans hra.out)
  obtain rfl := Option.some.inj (hyk.out.symm.trans hrb.out)
  have HN := Lib.hid hn2
  have h0 : (0 : Int) ≤ (ja : Int) := by omega
  have h1 : (ja : Int) < (4 : Int) := by omega
  have h2 : (0 : Int) ≤ (jb : Int) := by omega
  have h3 : (jb : Int) < (4 : Int) := by omega
  clear BX hn2
  have ho : o = 1 ∨ o = 2 ∨ o = 3 ∨ o = 4 ∨ o = 5 ∨ o = 6 := by simp [puB] at hp; omega
  clear hp
  rcases ho with rfl | rfl | rfl | rfl | rfl | rfl
  · go_enter Try.func62, Try.ntmps62
    go_wp2
    go_quiet (fail)
    go_wp2
    go_ret
    exact ⟨rfl, below_drewN (below_alloc _ _) _⟩
  · go_enter Try.func62, Try.ntmps62
    go_wp2
    go_quiet (fail)
    go_wp2
    go_ret
    exact ⟨rfl, below_drewN (below_alloc _ _) _⟩
  · go_enter Try.func62, Try.ntmps62
    go_wp2
    go_quiet (fail)
    go_wp2
    go_ret
    exact ⟨rfl, below_drewN (below_alloc _ _) _⟩
  · go_enter Try.func62, Try.ntmps62
    go_wp2
    go_quiet (fail)
    go_wp2
    go_ret
    exact ⟨rfl, below_drewN (below_alloc _ _) _⟩
  · go_enter Try.func62, Try.ntmps62
    go_wp2
    go_quiet (fail)
    go_wp2
    go_ret
    exact ⟨rfl, below_drewN (below_alloc _ _) _⟩
  · go_enter Try.func62, Try.ntmps62
    go_wp2
    go_quiet (fail)
    go_wp2
    go_ret
    exact ⟨ret_int (shl_eq2 ha0 ha1 hn0 (HN.out (by trivial))), below_drewN (below_alloc _ _) _⟩
end Go.Proofs.Ytlahpnihnpmgoaa
