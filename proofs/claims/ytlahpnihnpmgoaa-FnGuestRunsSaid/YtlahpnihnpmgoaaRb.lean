/- Contracts of small helpers on lists of ints: l1Has, slices.Contains, l1Put; an append inside a region that draws its order. Lengths at most 2^20. -/
import Derived.Test.YtlahpnihnpmgoaaRq
import Derived.Test.YtlahpnihnpmgoaaSe
import Derived.Test.YtlahpnihnpmgoaaInts
import Derived.Test.YtlahpnihnpmgoaaShelf
import Derived.Deep.RegionLaw
namespace Go.Proofs.Ytlahpnihnpmgoaa
open Go.RowKit
set_option linter.unusedVariables false
set_option linter.unusedSimpArgs false

set_option maxHeartbeats 1000000 in
theorem l1Has_eq (A : Option Addr) (n c : Nat) (xs : List Int) (x : Int) (w : World) (hr : Rd w 1 A n (I xs)) (hn : n ≤ 1048576) (r : Bool) (hR : decide (x ∈ xs) = r) :
    Calls Try.prog 28 #[.slice A n c, .int .i64 x] w fun e w' => e = .returned (.bool r) ∧ w = w' := by
  have hl := hr.len
  have HR := Lib.hid hR
  clear hR
  go_enter Try.func28, Try.ntmps28
  go_wp2
  go_loopw [5] (fun i wr => ∃ k : Nat, k ≤ n ∧ i = .int .i64 k ∧ Hid (¬ x ∈ xs.take k) ∧ w = wr) (fun i _ => n - (intOf i).toNat)
  case atStart => exact ⟨0, Nat.zero_le _, rfl, Lib.hid (by simp), rfl⟩
  case round =>
    obtain ⟨k, hk, rfl, HT, rfl⟩ := hrel
    by_cases hlt : k < n
    · obtain ⟨b, o, y, rfl, hbl, hyk, hc⟩ := hr.at_ hlt
      have h0 : (0 : Int) ≤ (k : Int) := by omega
      have h1 : (k : Int) < (n : Int) := by omega
      by_cases hxy : y = x
      · subst hxy
        go_wp2
        go_ret
        exact ⟨ret_bool (by rw [← HR.out]; simp [List.mem_of_getElem? hyk.out]), by first | rfl | trivial⟩
      · have hne : (y == x) = false := by simp [hxy]
        have HT2 := Lib.hid (show ¬ x ∈ xs.take (k + 1) by
          rw [take_snoc hyk.out, List.mem_append, List.mem_singleton]
          exact fun e => e.elim HT.out (fun e => hxy e.symm))
        clear hxy
        go_wp2
        go_roundw
        case rel => exact ⟨k + 1, by omega, by go_num, HT2, by first | rfl | trivial⟩
        case measure => simp [intOf]; omega
    · go_wp2
      go_ret
      refine ⟨ret_bool ?_, by first | rfl | trivial⟩
      have := HT.out
      rw [List.take_of_length_le (by omega)] at this
      rw [← HR.out]
      simp [this]

theorem contains_eq (A : Option Addr) (n c : Nat) (xs : List Int) (x : Int) (w : World) (hr : Rd w 1 A n (I xs)) (hn : n ≤ 1048576) (r : Bool) (hR : decide (x ∈ xs) = r) :
    Calls Try.prog 31 #[.slice A n c, .int .i64 x] w fun e w' => e = .returned (.bool r) ∧ w = w' := by
  have hl := hr.len
  by_cases h0 : n = 0
  · subst h0
    refine (Try.slices_Contains_int_empty A c x w).mono fun e w' ⟨he, hw⟩ => ⟨?_, hw.symm⟩
    have : xs = [] := List.eq_nil_of_length_eq_zero (by omega)
    rw [he, ← hR, this]; rfl
  · obtain ⟨b, o, rfl, hb, hc⟩ := hr.2 (by omega)
    refine (Try.slices_Contains_int b o n c xs x w (by omega) (by omega) (fun j hj => ?_)).mono fun e w' ⟨he, hw⟩ => ⟨?_, hw.symm⟩
    · refine hc j _ ?_
      rw [I_get hj]
      simp [List.getD]
    · rw [he, ← hR, List.take_of_length_le (by omega)]
      simp

/-- an append onto a slice of the call's own, as one step of a region that draws its order -/
theorem step_app {ops : Array Oper} {o : Oper} {a : Act} {w : World} {K : Act → World → Prop} {Q : Exit → Act → World → Prop} {E : Prop} (hgd : o.guard = none) (s x : Operand) (t : TypeId)
    (ho : o.op = .call { callee := .builtin .append, args := #[s, x], argTypes := #[t, t] })
    (base : Nat) (e : TypeId) (i : TypeInfo) (z : Value) (size bytes : Nat) (ht : Try.prog.underlying t = some (.slice e)) (hi : Try.prog.info? e = some i) (hz : i.zero = some z)
    (hsize : i.size = size) (hby : i.bytes = bytes) (hzs : z.cells.size = size) (hsz : 0 < size)
    (A : Option Addr) (n c : Nat) (xs : List Value) (hs : a.eval s = .slice A n c) (hown : w.ownsRow base e size (.slice A n c) n xs)
    (A2 : Option Addr) (m c2 : Nat) (news : List Value) (hx : a.eval x = .slice A2 m c2) (hr : Rd w size A2 m news) (h1 : ∀ u ∈ news, u.oneCell' = true)
    (h63 : n + m ≤ maxLen) (hbytes : (n + m) * bytes ≤ 140737488355328) (hbase : base ≤ w.heap.size)
    (h : ∀ A' c' w', w'.ownsRow base e size (.slice A' (n + m) c') (n + m) (xs ++ news) → w.grownBy w' (blk A) → (blk A' = blk A ∨ blk A' = some w.heap.size) → K (a.put o.dst (.slice A' (n + m) c')) w') :
    if Region.wanted o (yielded ops a.tmps) = true then Oper.wp Try.prog o a w K Q else E := by
  have hw : Region.wanted o (yielded ops a.tmps) = true := by simp [Region.wanted, hgd]
  rw [if_pos hw]
  exact wp_app w s x t ho base e i z size bytes ht hi hz hsize hby hzs hsz A n c xs hs hown A2 m c2 news hx hr h1 h63 hbytes hbase h

theorem putL_split {x : Int} : ∀ {xs : List Int} {k : Nat}, ¬ x ∈ xs → (∀ j y, j < k → xs[j]? = some y → y < x) → (∀ y, xs[k]? = some y → ¬ y < x) → k ≤ xs.length → putL xs x = xs.take k ++ x :: xs.drop k
  | [], k, _, _, _, hk => by
    have : k = 0 := by simpa using hk
    subst this; rfl
  | y :: l, 0, hn, _, h2, _ => by
    have h3 := h2 y (by simp)
    have h4 : ¬ y = x := fun e => hn (by rw [e]; exact List.mem_cons_self ..)
    rw [putL, if_neg h3, if_neg h4]; rfl
  | y :: l, k + 1, hn, h1, h2, hk => by
    have h3 := h1 0 y (by omega) (by simp)
    rw [putL, if_pos h3, putL_split (xs := l) (k := k) (fun e => hn (List.mem_cons_of_mem _ e)) (fun j z hj hz => h1 (j + 1) z (by omega) (by simpa using hz)) (fun z hz => h2 z (by simpa using hz)) (by simpa using hk)]
    rfl
theorem Rd.from_ {w : World} {n b o : Nat} {xs : List Int} (h : Rd w 1 (some ⟨b, o, none⟩) n (I xs)) {k : Nat} (hk : k ≤ n) : Rd w 1 (some ⟨b, o + k, none⟩) (n - k) (I (xs.drop k)) := by
  have hl := h.len
  refine ⟨by rw [I_length, List.length_drop]; omega, fun hn => ?_⟩
  obtain ⟨b', o', hA, hb, hc⟩ := h.2 (by omega)
  cases hA
  refine ⟨b, o + k, rfl, hb, fun j u hu => ?_⟩
  rw [Nat.add_assoc]
  refine hc (k + j) u ?_
  have e : I (xs.drop k) = (I xs).drop k := by simp [I, List.map_drop]
  rw [e, List.getElem?_drop] at hu
  exact hu
end Go.Proofs.Ytlahpnihnpmgoaa
