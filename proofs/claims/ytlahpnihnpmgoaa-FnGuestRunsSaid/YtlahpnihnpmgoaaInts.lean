/- Contracts of the small functions on lists of ints: toIntS, eqIntS, markIntS, heldIntS, l1Own, copyInts. Lengths at most 2^20 where memory is made. -/
import Derived.Test.YtlahpnihnpmgoaaRows
import Derived.Test.YtlahpnihnpmgoaaMem
namespace Go.Proofs.Ytlahpnihnpmgoaa
open Go.RowKit
set_option linter.unusedVariables false
set_option linter.unusedSimpArgs false

theorem Try.info3 : (Try.prog.info? 3).map (fun i => (i.zero, i.size, i.bytes)) = some (some (.int .i64 0), 1, 8) := by kernel_rfl

theorem madeCells_int (n : Nat) : (madeCells (Value.int .i64 0).cells (n * 1)).toList = I (List.replicate n 0) := by
  show (madeCells #[Value.int .i64 0] (n * 1)).toList = _
  rw [toList_madeCells_one, Nat.mul_one]; simp [I]

theorem set_fill (xs : List Int) (k : Nat) (x : Int) (h : k < xs.length) (hx : xs[k]? = some x) :
    (xs.take k ++ List.replicate (xs.length - k) 0).set k x = xs.take (k + 1) ++ List.replicate (xs.length - (k + 1)) 0 := by
  apply List.ext_getElem?
  intro j
  rw [List.getElem?_set]
  have hl : (xs.take k).length = k := by simp; omega
  have hl1 : (xs.take (k + 1)).length = k + 1 := by simp; omega
  simp only [List.getElem?_append, hl, hl1, List.length_append, List.length_replicate, List.getElem?_take, List.getElem?_replicate]
  by_cases h1 : k = j
  · subst h1
    have h3 : k < k + 1 := by omega
    have h4 : k < min k xs.length + (xs.length - k) := by omega
    simp [hx, h3, h4]
    omega
  · by_cases h2 : j < k
    · simp [h1, h2, Nat.lt_succ_of_lt h2]
    · have h3 : ¬ j < k + 1 := by omega
      simp only [h1, h2, h3, if_false]
      by_cases h4 : j - k < xs.length - k
      · rw [if_pos h4, if_pos (by omega)]
      · rw [if_neg h4, if_neg (by omega)]


abbrev ti (A : Option Addr) (n c : Nat) (xs : List Int) : Thing := ⟨3, 1, A, n, c, I xs⟩

theorem Rd.at_ {w : World} {A : Option Addr} {n k : Nat} {xs : List Int} (h : Rd w 1 A n (I xs)) (hk : k < n) :
    ∃ b o x, A = some ⟨b, o, none⟩ ∧ b < w.heap.size ∧ Hid (xs[k]? = some x) ∧ w.cell? ⟨b, o + k, none⟩ = some (.int .i64 x) := by
  obtain ⟨b, o, hA, hb, hc⟩ := h.2 (by omega)
  have hl : xs.length = n := by have := h.1; rw [I_length] at this; omega
  have hx : xs[k]? = some (xs[k]'(by omega)) := List.getElem?_eq_getElem (by omega)
  exact ⟨b, o, _, hA, hb, hx, hc k _ (by simp [I, hx])⟩
theorem take_snoc {l : List Int} {k : Nat} {x : Int} (h : l[k]? = some x) : l.take (k + 1) = l.take k ++ [x] := by
  rw [List.take_add_one, h]; rfl
theorem Rd.len {w : World} {A : Option Addr} {n : Nat} {xs : List Int} (h : Rd w 1 A n (I xs)) : xs.length = n := by have := h.1; rw [I_length] at this; omega

set_option maxHeartbeats 1000000 in
/-- the comparison of two lists of ints -/
theorem eqIntS_any (A A' : Option Addr) (n n' c c' : Nat) (xs ys : List Int) (w : World) (hr : Rd w 1 A n (I xs)) (hr' : Rd w 1 A' n' (I ys)) (hn : n ≤ 4503599627370496) (hn' : n' ≤ 4503599627370496) :
    Calls Try.prog 9 #[.slice A n c, .slice A' n' c'] w fun e w' => e = .returned (.bool (xs == ys)) ∧ Below w.heap.size w w' := by
  have hl := hr.len
  have hl' := hr'.len
  by_cases hnn : n = n'
  · subst hnn
    have hnb : ((n : Int) != (n : Int)) = false := by simp
    go_enter Try.func9, Try.ntmps9
    go_wp2
    go_loopw [5] (fun i wr => ∃ k : Nat, k ≤ n ∧ i = .int .i64 k ∧ xs.take k = ys.take k ∧ Below w.heap.size w wr) (fun i _ => n - (intOf i).toNat)
    case atStart => exact ⟨0, Nat.zero_le _, rfl, rfl, Below.refl _ _⟩
    case round =>
      obtain ⟨k, hk, rfl, ht, hB⟩ := hrel
      have HT := Lib.hid ht
      clear ht hnb
      by_cases hlt : k < n
      · obtain ⟨b, o, x, rfl, hbl, hxk, hc⟩ := (hr.keep hB).at_ hlt
        obtain ⟨b', o', y, rfl, hbl', hyk, hc'⟩ := (hr'.keep hB).at_ hlt
        have h0 : (0 : Int) ≤ (k : Int) := by omega
        have h1 : (k : Int) < (n : Int) := by omega
        by_cases hxy : x = y
        · subst hxy
          go_wp2
          go_quiet (fail)
          go_wp2
          go_roundw
          case rel => exact ⟨k + 1, by omega, by go_num, by rw [take_snoc hxk.out, take_snoc hyk.out, HT.out], below_drewN hB _⟩
          case measure => simp [intOf]; omega
        · have hne : (x != y) = true := by simp [hxy]
          go_wp2
          go_quiet (fail)
          go_wp2
          go_ret
          refine ⟨ret_bool ?_, below_drewN hB _⟩
          have : ¬ xs = ys := fun e => by
            subst e
            exact hxy (Option.some.inj (hxk.out.symm.trans hyk.out))
          simp [this]
      · go_wp2
        go_ret
        refine ⟨ret_bool ?_, hB⟩
        have e := HT.out
        rw [List.take_of_length_le (by omega), List.take_of_length_le (by omega)] at e
        simp [e]
  · have hnb : ((n : Int) != (n' : Int)) = true := by simp; omega
    go_enter Try.func9, Try.ntmps9
    go_wp2
    go_ret
    refine ⟨ret_bool ?_, Below.refl _ _⟩
    have : ¬ xs = ys := fun e => by subst e; omega
    simp [this]

theorem eqIntS_same (A A' : Option Addr) (n c c' : Nat) (xs : List Int) (w : World) (hr : Rd w 1 A n (I xs)) (hr' : Rd w 1 A' n (I xs)) (hn : n ≤ 1048576) :
    Calls Try.prog 9 #[.slice A n c, .slice A' n c'] w fun e w' => e = .returned (.bool true) ∧ Below w.heap.size w w' :=
  (eqIntS_any A A' n n c c' xs xs w hr hr' (by omega) (by omega)).mono fun e w' ⟨he, hb⟩ => ⟨by rw [he]; simp, hb⟩

/-- k, k+1, .. : n numbers -/
def marks (k : Int) (n : Nat) : List Int := (List.range n).map fun i : Nat => k + (i : Int)
theorem marks_length (k : Int) (n : Nat) : (marks k n).length = n := by simp [marks]
theorem marks_get {k : Int} {n i : Nat} (h : i < n) : (marks k n)[i]? = some (k + (i : Int)) := by simp [marks, h]
theorem marks_take_set (k : Int) (xs : List Int) (i : Nat) (h : i < xs.length) :
    ((marks k xs.length).take i ++ xs.drop i).set i (k + (i : Int)) = (marks k xs.length).take (i + 1) ++ xs.drop (i + 1) := by
  have hl : ((marks k xs.length).take i).length = i := by simp [marks_length]; omega
  rw [List.set_append, if_neg (by omega), hl, Nat.sub_self, List.drop_eq_getElem_cons h, List.set_cons_zero, take_snoc (marks_get h), List.append_assoc]
  rfl

set_option maxHeartbeats 1000000 in
theorem markIntS_any (A : Option Addr) (n c B : Nat) (xs : List Int) (m : Int) (w : World) (ho : Own w B (ti A n c xs)) (hn : n ≤ 4503599627370496) (hm0 : -4503599627370496 ≤ m) (hm1 : m ≤ 4503599627370496) :
    Calls Try.prog 12 #[.slice A n c, .int .i64 m] w fun e w' => e = .returned (.int .i64 (m + n)) ∧ Own w' B (ti A n c (marks m n)) ∧ w.grownBy w' (blk A) := by
  have hl : xs.length = n := ho.rd.len
  subst hl
  by_cases h0 : xs.length = 0
  · have hxs : xs = [] := List.eq_nil_of_length_eq_zero h0
    subst hxs
    go_enter Try.func12, Try.ntmps12
    go_wp2
    refine wp_loop_rounds 1 ?_
    rw [rounds_succ]
    go_wp2
    go_ret
    exact ⟨by simp, by simpa [marks] using ho, World.grownBy.refl _ _⟩
  · obtain ⟨g, hA⟩ : ∃ g, A = some ⟨g, 0, none⟩ := by
      rcases ho.2 with ⟨_, h⟩ | ⟨g, cap, cur, hv, _⟩
      · exact absurd h h0
      · simp only [Value.slice.injEq] at hv
        exact ⟨g, hv.1⟩
    subst hA
    have HO := Lib.hid ho
    clear ho
    go_enter Try.func12, Try.ntmps12
    go_wp2
    go_loopw [1, 5] (fun a i wr => ∃ k : Nat, k ≤ xs.length ∧ i = .int .i64 k ∧ a = .int .i64 (m + k) ∧ Own wr B (ti (some ⟨g, 0, none⟩) xs.length c ((marks m xs.length).take k ++ xs.drop k)) ∧ w.grownBy wr (some g))
      (fun _ i _ => xs.length - (intOf i).toNat)
    case atStart => exact ⟨0, Nat.zero_le _, rfl, by simp, by simpa using HO.out, World.grownBy.refl _ _⟩
    case round =>
      obtain ⟨k, hk, rfl, rfl, hO, hG⟩ := hrel
      by_cases hlt : k < xs.length
      · have hx : ∃ x, wr.cell? ⟨g, k, none⟩ = some (.int .i64 x) := by
          rw [World.ownsRow.cellAt hO k (by simpa using hlt)]
          exact ⟨_, I_get (by simp [marks_length]; omega)⟩
        obtain ⟨x, hx⟩ := hx
        have hf := World.ownsRow.frozenAt hO k
        have hs := World.ownsRow.stored hO k (.int .i64 (m + k))
        have HS := Lib.hid hs
        clear hs hO
        go_wp2
        go_roundw
        case rel =>
          refine ⟨k + 1, by omega, by go_num, by go_num, ?_, ?_⟩
          · have := HS.out.1
            simp only [I_set, marks_take_set m xs k hlt] at this
            exact this
          · exact World.grownBy.trans hG HS.out.2
        case measure => simp [intOf]; omega
      · have hkn : k = xs.length := by omega
        have HO := Lib.hid hO
        clear hO
        go_wp2
        go_ret
        have := HO.out
        subst hkn
        refine ⟨rfl, ?_, hG⟩
        have e : (marks m xs.length).take xs.length ++ xs.drop xs.length = marks m xs.length := by simp [List.take_of_length_le (Nat.le_of_eq (marks_length m xs.length))]
        rw [e] at this
        exact this

set_option maxHeartbeats 1000000 in
/-- a list that has just been marked is held -/
theorem heldIntS_marks (A : Option Addr) (n c : Nat) (m : Int) (w : World) (hr : Rd w 1 A n (I (marks m n))) (hn : n ≤ 4503599627370496) (hm0 : -4503599627370496 ≤ m) (hm1 : m ≤ 4503599627370496) :
    Calls Try.prog 13 #[.slice A n c, .int .i64 m] w fun e w' => e = .returned (.int .i64 (m + n)) ∧ Below w.heap.size w w' := by
  go_enter Try.func13, Try.ntmps13
  go_wp2
  go_loopw [1, 5] (fun a i wr => ∃ k : Nat, k ≤ n ∧ i = .int .i64 k ∧ a = .int .i64 (m + k) ∧ Below w.heap.size w wr) (fun _ i _ => n - (intOf i).toNat)
  case atStart => exact ⟨0, Nat.zero_le _, rfl, by simp, Below.refl _ _⟩
  case round =>
    obtain ⟨k, hk, rfl, rfl, hB⟩ := hrel
    by_cases hlt : k < n
    · obtain ⟨b, o, x, rfl, hbl, hxk, hc⟩ := (hr.keep hB).at_ hlt
      have hx : x = m + k := by have := hxk.out; rw [marks_get hlt] at this; exact (Option.some.inj this).symm
      subst hx
      have hne : (m + (k : Int) != m + (k : Int)) = false := by simp
      go_wp2
      go_roundw
      case rel => exact ⟨k + 1, by omega, by go_num, by go_num, hB⟩
      case measure => simp [intOf]; omega
    · have hkn : k = n := by omega
      go_wp2
      go_ret
      subst hkn
      exact ⟨rfl, hB⟩

theorem I_one (l : List Int) : ∀ u ∈ I l, u.oneCell' = true := by
  intro u hu
  obtain ⟨x, _, rfl⟩ := List.mem_map.1 hu
  rfl

set_option maxHeartbeats 1000000 in
theorem copyInts_any (A : Option Addr) (n c : Nat) (xs : List Int) (w : World) (hr : Rd w 1 A n (I xs)) (hn : n ≤ 1048576) :
    Calls Try.prog 60 #[.slice A n c] w fun e w' => ∃ A' c', e = .returned (.slice A' n c') ∧ Own w' w.heap.size (ti A' n c' xs) ∧ Below w.heap.size w w' := by
  obtain ⟨i0, hi, hz0, hz1, hz2⟩ := info_parts Try.info3
  go_enter Try.func60, Try.ntmps60
  go_wp2_with (at_builtin; refine wpList_app _ rfl _ _ 24 rfl w.heap.size 3 i0 (.int .i64 0) 1 8 Try.underlying24 hi hz0 hz1 hz2 rfl (by decide) _ _ _ _ rfl (World.ownsRow_made w #[] 0 (Nat.le_refl _) (Nat.zero_le _) rfl) _ _ _ _ rfl (hr.keep (below_alloc w _)) (I_one xs) (by unfold maxLen; omega) (by omega) (by simp) ?_; intro A' c' w1 hown hgrow hat)
  go_ret
  have hb := below_app (below_alloc w _) (by simp) (World.ownsRow_made (size := 1) w #[] 0 (Nat.le_refl _) (Nat.zero_le _) rfl) hgrow
  rw [List.nil_append, Nat.zero_add] at hown
  exact ⟨A', c', by simp, hown, hb⟩

set_option maxHeartbeats 1000000 in
theorem l1Own_any (A : Option Addr) (n c : Nat) (xs : List Int) (w : World) (hr : Rd w 1 A n (I xs)) (hn : n ≤ 1048576) :
    Calls Try.prog 43 #[.slice A n c] w fun e w' => ∃ A' c', e = .returned (.slice A' n c') ∧ Own w' w.heap.size (ti A' n c' xs) ∧ Below w.heap.size w w' := by
  obtain ⟨i0, hi, hz0, hz1, hz2⟩ := info_parts Try.info3
  go_enter Try.func43, Try.ntmps43
  go_wp2_with (at_builtin; refine wpList_app _ rfl _ _ 24 rfl w.heap.size 3 i0 (.int .i64 0) 1 8 Try.underlying24 hi hz0 hz1 hz2 rfl (by decide) _ _ _ _ rfl (World.ownsRow_made w #[] 0 (Nat.le_refl _) (Nat.zero_le _) rfl) _ _ _ _ rfl (hr.keep (below_alloc w _)) (I_one xs) (by unfold maxLen; omega) (by omega) (by simp) ?_; intro A' c' w1 hown hgrow hat)
  go_ret
  have hb := below_app (below_alloc w _) (by simp) (World.ownsRow_made (size := 1) w #[] 0 (Nat.le_refl _) (Nat.zero_le _) rfl) hgrow
  rw [List.nil_append, Nat.zero_add] at hown
  exact ⟨A', c', by simp, hown, hb⟩

end Go.Proofs.Ytlahpnihnpmgoaa
