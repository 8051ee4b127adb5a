/- Contracts of inside and l1In; of slices.ContainsFunc on ints at a predicate that only computes. Lengths at most 2^52. -/
import Derived.Test.YtaaocnfbbajphaaInts
namespace Go.Proofs.Ytaaocnfbbajphaa
open Go.RowKit
set_option linter.unusedVariables false
set_option linter.unusedSimpArgs false

/-- a number in a range, as a Bool -/
def inB (x a b : Int) : Bool := decide (a ≤ x) && decide (x ≤ b)
theorem inB_iff {x a b : Int} : inB x a b = true ↔ a ≤ x ∧ x ≤ b := by simp [inB]

set_option maxHeartbeats 400000 in
theorem inside_any (x a b : Int) (w : World) :
    Calls Try.prog 48 #[.int .i64 x, .int .i64 a, .int .i64 b] w fun e w' => e = .returned (.bool (inB x a b)) ∧ w = w' := by
  go_enter Try.func48, Try.ntmps48
  go_wp2
  all_goals go_ret
  all_goals refine ⟨ret_bool ?_, rfl⟩
  all_goals (rw [Bool.eq_iff_iff]; simp [inB]; omega)

set_option maxHeartbeats 400000 in
theorem l1In_any (x a b : Int) (w : World) :
    Calls Try.prog 41 #[.int .i64 x, .int .i64 a, .int .i64 b] w fun e w' => e = .returned (.bool (inB x a b)) ∧ w = w' := by
  go_enter Try.func41, Try.ntmps41
  go_wp2
  all_goals go_ret
  all_goals refine ⟨ret_bool ?_, rfl⟩
  all_goals (rw [Bool.eq_iff_iff]; simp [inB]; omega)
theorem inside_eq {x a b : Int} {r : Bool} (h : inB x a b = r) (w : World) :
    Calls Try.prog 48 #[.int .i64 x, .int .i64 a, .int .i64 b] w fun e w' => e = .returned (.bool r) ∧ w = w' := by subst h; exact inside_any _ _ _ _
theorem l1In_eq {x a b : Int} {r : Bool} (h : inB x a b = r) (w : World) :
    Calls Try.prog 41 #[.int .i64 x, .int .i64 a, .int .i64 b] w fun e w' => e = .returned (.bool r) ∧ w = w' := by subst h; exact l1In_any _ _ _ _

theorem find_none {p : Int → Bool} {l : List Int} {k : Nat} (h : (l.take k).any p = false) (hk : l.length ≤ k) : l.any p = false := by
  rw [List.take_of_length_le hk] at h; exact h
theorem any_snoc {p : Int → Bool} {l : List Int} {k : Nat} {x : Int} (h : (l.take k).any p = false) (hx : l[k]? = some x) (hp : p x = false) : (l.take (k + 1)).any p = false := by
  rw [take_snoc hx, List.any_append, h]; simp [hp]
theorem any_hit {p : Int → Bool} {l : List Int} {k : Nat} {x : Int} (hx : l[k]? = some x) (hp : p x = true) : l.any p = true :=
  List.any_eq_true.2 ⟨x, List.mem_of_getElem? hx, hp⟩

/-- at the place of the first that meets p, or -1 -/
def Found (p : Int → Bool) (l : List Int) (r : Int) : Prop := (r = -1 ∧ l.any p = false) ∨ (∃ k : Nat, r = k ∧ k < l.length ∧ (l.take k).any p = false ∧ ∃ x, l[k]? = some x ∧ p x = true)

set_option maxHeartbeats 1000000 in
theorem indexFunc_any (K : Nat) (hK : ∀ (x : Int) (w : World), (callFunc K #[.int .i64 x]).run Try.prog w = .ok (.enter K #[.int .i64 x]) w) (p : Int → Bool) (hp : ∀ x w b, p x = b → Calls Try.prog K #[.int .i64 x] w fun e w' => e = .returned (.bool b) ∧ w = w')
    (A : Option Addr) (n c : Nat) (xs : List Int) (w : World) (hr : Rd w 1 A n (I xs)) (hn : n ≤ 4503599627370496) :
    Calls Try.prog 91 #[.slice A n c, .func (.func K) #[] #[]] w fun e w' => ∃ r, e = .returned (.int .i64 r) ∧ Found p xs r ∧ w = w' := by
  have hl := hr.len
  have HP := Lib.hid hp
  clear hp
  go_enter Try.func91, Try.ntmps91
  go_wp2
  go_loop [5, 8] (fun j i => ∃ k : Nat, k ≤ n ∧ i = .int .i64 k ∧ Hid ((xs.take k).any p = false)) (fun _ i => n - (intOf i).toNat)
  case atStart => exact ⟨0, Nat.zero_le _, rfl, by rfl⟩
  case round =>
    obtain ⟨k, hk, rfl, ht⟩ := hrel
    by_cases hlt : k < n
    · obtain ⟨b, o, x, rfl, hbl, hxk, hc⟩ := hr.at_ hlt
      cases hpx : p x
      all_goals have HX := Lib.hid hpx
      all_goals clear hpx
      · go_wp2_with fail
        refine (HP.out x _ _ HX.out).mono ?_
        rintro e w1 ⟨rfl, rfl⟩
        go_wp2
        go_round
        case rel => exact ⟨k + 1, by omega, by go_num, any_snoc ht.out hxk.out HX.out⟩
        case measure => simp [intOf]; omega
      · go_wp2_with fail
        refine (HP.out x _ _ HX.out).mono ?_
        rintro e w1 ⟨rfl, rfl⟩
        go_wp2
        go_ret
        exact ⟨_, rfl, .inr ⟨k, rfl, by omega, ht.out, x, hxk.out, HX.out⟩, rfl⟩
    · go_wp2
      go_ret
      exact ⟨_, rfl, .inl ⟨rfl, find_none ht.out (by omega)⟩, rfl⟩

set_option maxHeartbeats 1000000 in
theorem containsFunc_any (K : Nat) (hK : ∀ (x : Int) (w : World), (callFunc K #[.int .i64 x]).run Try.prog w = .ok (.enter K #[.int .i64 x]) w) (p : Int → Bool) (hp : ∀ x w b, p x = b → Calls Try.prog K #[.int .i64 x] w fun e w' => e = .returned (.bool b) ∧ w = w')
    (A : Option Addr) (n c : Nat) (xs : List Int) (w : World) (hr : Rd w 1 A n (I xs)) (hn : n ≤ 4503599627370496) (r : Bool) (hT : xs.any p = r) :
    Calls Try.prog 86 #[.slice A n c, .func (.func K) #[] #[]] w fun e w' => e = .returned (.bool r) ∧ w = w' := by
  have HP := Lib.hid hp
  clear hp
  have HT := Lib.hid hT
  clear hT
  go_enter Try.func86, Try.ntmps86
  go_wp2_with fail
  refine (indexFunc_any K hK p HP.out A n c xs _ hr hn).mono ?_
  rintro e w1 ⟨q, rfl, hq, rfl⟩
  have HQ := Lib.hid hq
  rcases hq with ⟨rfl, h1⟩ | ⟨k, rfl, h1, h2, x, h3, h4⟩
  · rw [HT.out] at h1
    subst h1
    go_wp2
    go_ret
    exact ⟨rfl, rfl⟩
  · have h5 := any_hit h3 h4
    rw [HT.out] at h5
    subst h5
    have h6 : (0 : Int) ≤ (k : Int) := by omega
    clear h1 h2 h3 h4 HQ
    go_wp2
    go_ret
    exact ⟨rfl, rfl⟩

theorem ti_cap {w : World} {B : Nat} {A : Option Addr} {n c : Nat} {xs : List Int} (h : Own w B (ti A n c xs)) : n ≤ c ∧ c ≤ maxLen := own_cap h
/-- a list, or none -/
def selL (b : Bool) (l : List Int) : List Int := if b then l else []
theorem own_new0 (w : World) (cs : Array Value) (h : cs.size = 0) : Own (w.alloc (.cells cs 3)) w.heap.size (ti (some ⟨w.heap.size, 0, none⟩) 0 0 []) := World.ownsRow_made w cs 0 (Nat.le_refl _) (Nat.zero_le _) (by simpa using h)
theorem own_nil (w : World) (B : Nat) : Own w B (ti none 0 0 []) := World.ownsRow_nil _ _ _ _

theorem own_some {w : World} {B : Nat} {A : Option Addr} {n c : Nat} {xs : List Int} (h : Own w B (ti A n c xs)) (hn : 0 < n) : ∃ g, A = some ⟨g, 0, none⟩ := by
  rcases h.2 with ⟨_, h0⟩ | ⟨g, cap, cur, hv, _⟩
  · exact absurd h0 (by show n ≠ 0; omega)
  · simp only [Value.slice.injEq] at hv
    exact ⟨g, hv.1⟩
/-- a store into an owned list of ints -/
theorem own_store {w : World} {B : Nat} {g n c : Nat} {xs : List Int} (h : Own w B (ti (some ⟨g, 0, none⟩) n c xs)) {k : Nat} (hk : k < n) (x : Int) :
    (∃ y, w.cell? ⟨g, k, none⟩ = some (.int .i64 y)) ∧ w.frozen? ⟨g, k, none⟩ = false ∧ Own (w.setCell ⟨g, k, none⟩ (.int .i64 x)) B (ti (some ⟨g, 0, none⟩) n c (xs.set k x)) ∧ w.grownBy (w.setCell ⟨g, k, none⟩ (.int .i64 x)) (some g) := by
  have hl : xs.length = n := h.rd.len
  have hs := World.ownsRow.stored h k (.int .i64 x)
  refine ⟨⟨xs[k]?.getD 0, ?_⟩, World.ownsRow.frozenAt h k, ?_, hs.2⟩
  · rw [World.ownsRow.cellAt h k (by simpa using hk)]
    exact I_get (by omega)
  · have := hs.1
    rw [I_set] at this
    exact this


theorem open_at {w : World} {A : Option Addr} {n : Nat} {xs : List Int} {f : Int} (hr : Rd w 1 A n (I xs)) (h : inB f 0 ((n : Int) - 1) = true) : ∃ (j b o : Nat) (x : Int), f = j ∧ j < n ∧ A = some ⟨b, o, none⟩ ∧ b < w.heap.size ∧ Hid (xs[j]? = some x) ∧ w.cell? ⟨b, o + j, none⟩ = some (.int .i64 x) := by
  obtain ⟨h0, h1⟩ := inB_iff.1 h
  obtain ⟨j, rfl⟩ := Int.eq_ofNat_of_zero_le h0
  have hj : j < n := by omega
  obtain ⟨b, o, x, hA, hb, hx, hc⟩ := hr.at_ hj
  exact ⟨j, b, o, x, rfl, hj, hA, hb, hx, hc⟩
def selI (b : Bool) (x : Int) : Int := if b then x else 0
theorem Rd.take_ {w : World} {A : Option Addr} {n : Nat} {xs : List Int} (h : Rd w 1 A n (I xs)) {k : Nat} (hk : k ≤ n) : Rd w 1 A k (I (xs.take k)) := by
  have hl := h.len
  refine ⟨by simp [I_length]; omega, fun h0 => ?_⟩
  obtain ⟨b, o, hA, hb, hc⟩ := h.2 (by omega)
  refine ⟨b, o, hA, hb, fun j u hu => hc j u ?_⟩
  have hj : j < k := by
    have := (List.getElem?_eq_some_iff.1 hu).1
    rw [I_length, List.length_take] at this; omega
  rw [← I_take, List.getElem?_take_of_lt hj] at hu
  exact hu
end Go.Proofs.Ytaaocnfbbajphaa
