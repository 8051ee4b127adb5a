/- Contracts of the predicates on owners: inside, l1In, l2Good, AreOwners. Lengths at most 2^52. -/
import Derived.Test.YtcbfljfmicjacaaInts
namespace Go.Proofs.Ytcbfljfmicjacaa
open Go.RowKit
set_option linter.unusedVariables false
set_option linter.unusedSimpArgs false

/-- a number in a range, as a Bool -/
def inB (x a b : Int) : Bool := decide (a ≤ x) && decide (x ≤ b)
theorem inB_iff {x a b : Int} : inB x a b = true ↔ a ≤ x ∧ x ≤ b := by simp [inB]

set_option maxHeartbeats 400000 in
theorem inside_any (x a b : Int) (w : World) :
    Calls Try.prog 55 #[.int .i64 x, .int .i64 a, .int .i64 b] w fun e w' => e = .returned (.bool (inB x a b)) ∧ w = w' := by
  go_enter Try.func55, Try.ntmps55
  go_wp2
  all_goals go_ret
  all_goals refine ⟨ret_bool ?_, rfl⟩
  all_goals (rw [Bool.eq_iff_iff]; simp [inB]; omega)

set_option maxHeartbeats 400000 in
theorem l1In_any (x a b : Int) (w : World) :
    Calls Try.prog 62 #[.int .i64 x, .int .i64 a, .int .i64 b] w fun e w' => e = .returned (.bool (inB x a b)) ∧ w = w' := by
  go_enter Try.func62, Try.ntmps62
  go_wp2
  all_goals go_ret
  all_goals refine ⟨ret_bool ?_, rfl⟩
  all_goals (rw [Bool.eq_iff_iff]; simp [inB]; omega)
theorem inside_eq {x a b : Int} {r : Bool} (h : inB x a b = r) (w : World) :
    Calls Try.prog 55 #[.int .i64 x, .int .i64 a, .int .i64 b] w fun e w' => e = .returned (.bool r) ∧ w = w' := by subst h; exact inside_any _ _ _ _
theorem l1In_eq {x a b : Int} {r : Bool} (h : inB x a b = r) (w : World) :
    Calls Try.prog 62 #[.int .i64 x, .int .i64 a, .int .i64 b] w fun e w' => e = .returned (.bool r) ∧ w = w' := by subst h; exact l1In_any _ _ _ _

set_option maxHeartbeats 400000 in
theorem areOwners1_any (x : Int) (w : World) :
    Calls Try.prog 57 #[.int .i64 x] w fun e w' => e = .returned (.bool (!(inB x 0 4))) ∧ w = w' := by
  go_enter Try.func57, Try.ntmps57
  go_wp2_with fail
  refine (inside_any _ _ _ _).mono ?_
  rintro e w1 ⟨rfl, rfl⟩
  go_wp2
  go_ret
  exact ⟨rfl, rfl⟩


theorem find_none {p : Int → Bool} {l : List Int} {k : Nat} (h : (l.take k).any p = false) (hk : l.length ≤ k) : l.any p = false := by
  rw [List.take_of_length_le hk] at h; exact h
theorem any_snoc {p : Int → Bool} {l : List Int} {k : Nat} {x : Int} (h : (l.take k).any p = false) (hx : l[k]? = some x) (hp : p x = false) : (l.take (k + 1)).any p = false := by
  rw [take_snoc hx, List.any_append, h]; simp [hp]
theorem any_hit {p : Int → Bool} {l : List Int} {k : Nat} {x : Int} (hx : l[k]? = some x) (hp : p x = true) : l.any p = true :=
  List.any_eq_true.2 ⟨x, List.mem_of_getElem? hx, hp⟩

/-- at the place of the first that meets p, or -1 -/
def Found (p : Int → Bool) (l : List Int) (r : Int) : Prop := (r = -1 ∧ l.any p = false) ∨ (∃ k : Nat, r = k ∧ k < l.length ∧ (l.take k).any p = false ∧ ∃ x, l[k]? = some x ∧ p x = true)

set_option maxHeartbeats 1000000 in
theorem indexFunc_any (K : Nat) (hK : ∀ (x : Int) (w : World), (callFunc K #[.int .i64 x]).run Try.prog w = .ok (.enter K #[.int .i64 x]) w) (p : Int → Bool) (hp : ∀ x w b, p x = b → Calls Try.prog K #[.int .i64 x] w fun e w' => e = .returned (.bool b) ∧ w = w')
    (A : Option Addr) (n c : Nat) (xs : List Int) (w : World) (hr : Rd w 1 A n (I xs)) (hn : n ≤ 4503599627370496) :
    Calls Try.prog 78 #[.slice A n c, .func (.func K) #[] #[]] w fun e w' => ∃ r, e = .returned (.int .i64 r) ∧ Found p xs r ∧ w = w' := by
  have hl := hr.len
  have HP := Lib.hid hp
  clear hp
  go_enter Try.func78, Try.ntmps78
  go_wp2
  go_loop [5, 8] (fun j i => ∃ k : Nat, k ≤ n ∧ i = .int .i64 k ∧ Hid ((xs.take k).any p = false)) (fun _ i => n - (intOf i).toNat)
  case atStart => exact ⟨0, Nat.zero_le _, rfl, by rfl⟩
  case round =>
    obtain ⟨k, hk, rfl, ht⟩ := hrel
    by_cases hlt : k < n
    · obtain ⟨b, o, x, rfl, hbl, hxk, hc⟩ := hr.at_ hlt
      cases hpx : p x
      all_goals have HX := Lib.hid hpx
      all_goals clear hpx
      · go_wp2_with fail
        refine (HP.out x _ _ HX.out).mono ?_
        rintro e w1 ⟨rfl, rfl⟩
        go_wp2
        go_round
        case rel => exact ⟨k + 1, by omega, by go_num, any_snoc ht.out hxk.out HX.out⟩
        case measure => simp [intOf]; omega
      · go_wp2_with fail
        refine (HP.out x _ _ HX.out).mono ?_
        rintro e w1 ⟨rfl, rfl⟩
        go_wp2
        go_ret
        exact ⟨_, rfl, .inr ⟨k, rfl, by omega, ht.out, x, hxk.out, HX.out⟩, rfl⟩
    · go_wp2
      go_ret
      exact ⟨_, rfl, .inl ⟨rfl, find_none ht.out (by omega)⟩, rfl⟩

set_option maxHeartbeats 1000000 in
theorem containsFunc_any (K : Nat) (hK : ∀ (x : Int) (w : World), (callFunc K #[.int .i64 x]).run Try.prog w = .ok (.enter K #[.int .i64 x]) w) (p : Int → Bool) (hp : ∀ x w b, p x = b → Calls Try.prog K #[.int .i64 x] w fun e w' => e = .returned (.bool b) ∧ w = w')
    (A : Option Addr) (n c : Nat) (xs : List Int) (w : World) (hr : Rd w 1 A n (I xs)) (hn : n ≤ 4503599627370496) (r : Bool) (hT : xs.any p = r) :
    Calls Try.prog 56 #[.slice A n c, .func (.func K) #[] #[]] w fun e w' => e = .returned (.bool r) ∧ w = w' := by
  have HP := Lib.hid hp
  clear hp
  have HT := Lib.hid hT
  clear hT
  go_enter Try.func56, Try.ntmps56
  go_wp2_with fail
  refine (indexFunc_any K hK p HP.out A n c xs _ hr hn).mono ?_
  rintro e w1 ⟨q, rfl, hq, rfl⟩
  have HQ := Lib.hid hq
  rcases hq with ⟨rfl, h1⟩ | ⟨k, rfl, h1, h2, x, h3, h4⟩
  · rw [HT.out] at h1
    subst h1
    go_wp2
    go_ret
    exact ⟨rfl, rfl⟩
  · have h5 := any_hit h3 h4
    rw [HT.out] at h5
    subst h5
    have h6 : (0 : Int) ≤ (k : Int) := by omega
    clear h1 h2 h3 h4 HQ
    go_wp2
    go_ret
    exact ⟨rfl, rfl⟩

/-- are these owners -/
def ownB (xs : List Int) : Bool := inB xs.length 1 16 && !xs.any (fun x => !inB x 0 4)

set_option maxHeartbeats 400000 in
theorem i_AreOwners_eq (A : Option Addr) (n c : Nat) (xs : List Int) (w : World) (hr : Rd w 1 A n (I xs)) (hn : n ≤ 4503599627370496) (r : Bool) (hR : ownB xs = r) :
    Calls Try.prog 17 #[.slice A n c] w fun e w' => e = .returned (.bool r) ∧ w = w' := by
  have hl := hr.len
  unfold ownB at hR
  rw [hl] at hR
  cases hT : inB n 1 16
  all_goals have HT := Lib.hid hT
  all_goals rw [hT] at hR
  all_goals clear hT hl
  · subst hR
    go_enter Try.func17, Try.ntmps17
    go_wp2_with fail
    refine (inside_eq HT.out _).mono ?_
    rintro e w1 ⟨rfl, rfl⟩
    go_wp2
    go_ret
    exact ⟨rfl, rfl⟩
  · cases hP : xs.any (fun x => !inB x 0 4)
    all_goals have HP := Lib.hid hP
    all_goals rw [hP] at hR
    all_goals clear hP
    all_goals subst hR
    all_goals
      go_enter Try.func17, Try.ntmps17
      go_wp2_with fail
      refine (inside_eq HT.out _).mono ?_
      rintro e w1 ⟨rfl, rfl⟩
      go_wp2_with fail
      refine (containsFunc_any _ (fun _ _ => by kernel_rfl) (fun x => !inB x 0 4) (fun x w b hb => by subst hb; exact areOwners1_any x w) _ _ _ xs _ hr hn _ HP.out).mono ?_
      rintro e w1 ⟨rfl, rfl⟩
      go_wp2
      go_ret
      exact ⟨rfl, rfl⟩

set_option maxHeartbeats 400000 in
theorem l2Good_eq (A : Option Addr) (n c : Nat) (xs : List Int) (w : World) (hr : Rd w 1 A n (I xs)) (hn : n ≤ 4503599627370496) (r : Bool) (hR : ownB xs = r) :
    Calls Try.prog 54 #[.slice A n c] w fun e w' => e = .returned (.bool r) ∧ w = w' := by
  have hl := hr.len
  have HR := Lib.hid hR
  clear hR
  go_enter Try.func54, Try.ntmps54
  go_wp2
  go_loop [3] (fun i => ∃ k : Nat, k ≤ n ∧ i = .int .i64 k ∧ Hid ((xs.take k).any (fun x => !inB x 0 4) = false)) (fun i => n - (intOf i).toNat)
  case atStart => exact ⟨0, Nat.zero_le _, rfl, by rfl⟩
  case round =>
    obtain ⟨k, hk, rfl, ht⟩ := hrel
    by_cases hlt : k < n
    · obtain ⟨b, o, x, rfl, hbl, hxk, hc⟩ := hr.at_ hlt
      cases hpx : inB x 0 4
      all_goals have HX := Lib.hid hpx
      all_goals clear hpx
      · go_wp2_with fail
        refine (l1In_eq HX.out _).mono ?_
        rintro e w1 ⟨rfl, rfl⟩
        go_wp2
        go_ret
        refine ⟨ret_bool ?_, rfl⟩
        have h5 := any_hit (p := fun x => !inB x 0 4) hxk.out (by simp [HX.out])
        rw [← HR.out, ownB, h5]
        simp
      · go_wp2_with fail
        refine (l1In_eq HX.out _).mono ?_
        rintro e w1 ⟨rfl, rfl⟩
        go_wp2
        go_round
        case rel => exact ⟨k + 1, by omega, by go_num, any_snoc ht.out hxk.out (by simp [HX.out])⟩
        case measure => simp [intOf]; omega
    · have h5 := find_none ht.out (show xs.length ≤ k by omega)
      have H5 := Lib.hid h5
      clear h5
      go_wp2_with fail
      refine (l1In_any _ _ _ _).mono ?_
      rintro e w1 ⟨rfl, rfl⟩
      go_wp2
      go_ret
      refine ⟨ret_bool ?_, rfl⟩
      rw [← HR.out, ownB, H5.out, hl]
      simp

set_option maxHeartbeats 400000 in
theorem s_AreOwners_eq (A : Option Addr) (n c : Nat) (xs : List Int) (w : World) (hr : Rd w 1 A n (I xs)) (hn : n ≤ 4503599627370496) (r : Bool) (hR : ownB xs = r) :
    Calls Try.prog 15 #[.slice A n c] w fun e w' => e = .returned (.bool r) ∧ w = w' := by
  go_enter Try.func15, Try.ntmps15
  go_wp2_with fail
  refine (l2Good_eq _ _ _ xs _ hr hn r hR).mono ?_
  rintro e w1 ⟨rfl, rfl⟩
  go_wp2
  go_ret
  exact ⟨rfl, rfl⟩
theorem s_AreOwners_any (A : Option Addr) (n c : Nat) (xs : List Int) (w : World) (hr : Rd w 1 A n (I xs)) (hn : n ≤ 1048576) :
    Calls Try.prog 15 #[.slice A n c] w fun e w' => e = .returned (.bool (ownB xs)) ∧ w = w' := s_AreOwners_eq A n c xs w hr (by omega) _ rfl
theorem i_AreOwners_any (A : Option Addr) (n c : Nat) (xs : List Int) (w : World) (hr : Rd w 1 A n (I xs)) (hn : n ≤ 1048576) :
    Calls Try.prog 17 #[.slice A n c] w fun e w' => e = .returned (.bool (ownB xs)) ∧ w = w' := i_AreOwners_eq A n c xs w hr (by omega) _ rfl
end Go.Proofs.Ytcbfljfmicjacaa
