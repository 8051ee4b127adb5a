/- Contracts of isFrame, isPage, isLeaf, slices.Contains on ints, l1Has, l4Leaf. Lengths at most 2^20. -/
import Derived.Test.YtaaocnfbbajphaaTt
import Derived.Deep.RegionWith
namespace Go.Proofs.Ytaaocnfbbajphaa
open Go.RowKit
set_option linter.unusedVariables false
set_option linter.unusedSimpArgs false

set_option maxHeartbeats 400000 in
theorem isFrame_eq {x : Int} {r : Bool} (h : inB x 0 15 = r) (w : World) :
    Calls Try.prog 63 #[.int .i64 x] w fun e w' => e = .returned (.bool r) ∧ w = w' := by
  have H := Lib.hid h
  clear h
  go_enter Try.func63, Try.ntmps63
  go_wp2_with fail
  refine (inside_eq H.out _).mono ?_
  rintro e w1 ⟨rfl, rfl⟩
  go_wp2
  go_ret
  exact ⟨rfl, rfl⟩
set_option maxHeartbeats 400000 in
theorem isPage_eq {x : Int} {r : Bool} (h : inB x 0 15 = r) (w : World) :
    Calls Try.prog 51 #[.int .i64 x] w fun e w' => e = .returned (.bool r) ∧ w = w' := by
  have H := Lib.hid h
  clear h
  go_enter Try.func51, Try.ntmps51
  go_wp2_with fail
  refine (inside_eq H.out _).mono ?_
  rintro e w1 ⟨rfl, rfl⟩
  go_wp2
  go_ret
  exact ⟨rfl, rfl⟩

set_option maxHeartbeats 400000 in
theorem isLeaf1_any (x : REntry) (w : World) (b : Bool) (hb : entHas x = b) :
    Calls Try.prog 82 #[vEntry x] w fun e w' => e = .returned (.bool b) ∧ Below w.heap.size w w' := by
  subst hb
  go_enter Try.func82, Try.ntmps82
  go_wp2
  go_ret
  exact ⟨rfl, below_alloc _ _⟩
theorem bad_in {x : REntry} (h : inB x.f0 0 15 = true) : entBad x = false := by
  obtain ⟨h0, h1⟩ := inB_iff.1 h
  have e : (x.f0 == -1) = false := by simp; omega
  simp [entBad, e]; omega
theorem bad_out {x : REntry} (h : inB x.f0 0 15 = false) (hn : x.f0 ≠ -1) : entBad x = true := by
  have h0 : ¬ (0 ≤ x.f0 ∧ x.f0 ≤ 15) := fun hh => by rw [inB_iff.2 hh] at h; cases h
  simp [entBad]; omega
theorem bad_none {b : Bool} : entBad ⟨-1, b⟩ = b := by cases b <;> decide
set_option maxHeartbeats 400000 in
theorem isLeaf2_any (x : REntry) (w : World) (b : Bool) (hb : entBad x = b) :
    Calls Try.prog 83 #[vEntry x] w fun e w' => e = .returned (.bool b) ∧ Below w.heap.size w w' := by
  subst hb
  by_cases h : x.f0 = -1
  · obtain ⟨f0, f1⟩ := x
    simp only at h
    subst h
    rw [bad_none]
    go_enter Try.func83, Try.ntmps83
    go_wp2
    go_ret
    exact ⟨rfl, below_alloc _ _⟩
  · have h1 : (x.f0 != -1) = true := by simp [h]
    have h2 : (x.f0 == -1) = false := by simp [h]
    cases h3 : inB x.f0 0 15
    · have h4 := bad_out h3 h
      have H3 := Lib.hid h3
      rw [h4]
      clear h3 h4 h
      go_enter Try.func83, Try.ntmps83
      go_wp2_with fail
      refine (isFrame_eq H3.out _).mono ?_
      rintro e w1 ⟨rfl, rfl⟩
      go_wp2
      go_ret
      exact ⟨rfl, below_alloc _ _⟩
    · have h4 := bad_in h3
      have H3 := Lib.hid h3
      rw [h4]
      clear h3 h4 h
      go_enter Try.func83, Try.ntmps83
      go_wp2_with fail
      refine (isFrame_eq H3.out _).mono ?_
      rintro e w1 ⟨rfl, rfl⟩
      go_wp2
      go_ret
      exact ⟨rfl, below_alloc _ _⟩

set_option maxHeartbeats 1000000 in
theorem isLeaf_eq (A : Option Addr) (n c : Nat) (es : List REntry) (w : World) (hr : Rd w 2 A n (J cEntry es)) (hn : n ≤ 4503599627370496) (r : Bool) (hR : leafB es = r) :
    Calls Try.prog 47 #[.slice A n c] w fun e w' => e = .returned (.bool r) ∧ Below w.heap.size w w' := by
  have hl := hr.lenS posEntry cEntry_len
  unfold leafB at hR
  rw [hl] at hR
  clear hl
  by_cases h4 : n = 4
  · subst h4
    cases h1 : es.any entHas
    all_goals have H1 := Lib.hid h1
    all_goals rw [h1] at hR
    all_goals clear h1
    · obtain rfl : false = r := by rw [← hR]; rfl
      clear hR
      go_enter Try.func47, Try.ntmps47
      go_wp2_with fail
      refine (containsFuncEntry _ (fun _ _ => by kernel_rfl) entHas (fun x w b hb => isLeaf1_any x w b hb) _ _ _ es _ hr hn _ H1.out).mono ?_
      rintro e w1 ⟨rfl, hb⟩
      go_wp2
      go_ret
      exact ⟨rfl, hb⟩
    · cases h2 : es.any entBad
      all_goals have H2 := Lib.hid h2
      all_goals rw [h2] at hR
      all_goals clear h2
      all_goals subst hR
      all_goals
        go_enter Try.func47, Try.ntmps47
        go_wp2_with fail
        refine (containsFuncEntry _ (fun _ _ => by kernel_rfl) entHas (fun x w b hb => isLeaf1_any x w b hb) _ _ _ es _ hr hn _ H1.out).mono ?_
        rintro e w1 ⟨rfl, hb⟩
        go_wp2_with fail
        refine (containsFuncEntry _ (fun _ _ => by kernel_rfl) entBad (fun x w b hb => isLeaf2_any x w b hb) _ _ _ es _ (hr.keep hb) hn _ H2.out).mono ?_
        rintro e w2 ⟨rfl, hb2⟩
        go_wp2
        go_ret
        exact ⟨rfl, below_next hb hb2⟩
  · have h9 : ((n : Int) == 4) = false := by simp; omega
    obtain rfl : false = r := by rw [← hR]; simp [h4]
    clear hR h4
    go_enter Try.func47, Try.ntmps47
    go_wp2
    go_ret
    exact ⟨rfl, Below.refl _ _⟩

/-- is it in the list -/
def memB (l : List Int) (x : Int) : Bool := decide (x ∈ l)
theorem memB_iff {l : List Int} {x : Int} : memB l x = true ↔ x ∈ l := by simp [memB]
theorem memB_no {l : List Int} {x : Int} : memB l x = false ↔ x ∉ l := by simp [memB]
set_option maxHeartbeats 1000000 in
theorem index_any (A : Option Addr) (n c : Nat) (xs : List Int) (x : Int) (w : World) (hr : Rd w 1 A n (I xs)) (hn : n ≤ 4503599627370496) :
    Calls Try.prog 84 #[.slice A n c, .int .i64 x] w fun e w' => ∃ r : Int, e = .returned (.int .i64 r) ∧ Hid ((r = -1 ∧ memB xs x = false) ∨ (0 ≤ r ∧ memB xs x = true)) ∧ w = w' := by
  have HL := Lib.hid hr.len
  go_enter Try.func84, Try.ntmps84
  go_wp2
  go_loop [5, 8] (fun j i => ∃ k : Nat, k ≤ n ∧ i = .int .i64 k ∧ Hid (x ∉ xs.take k)) (fun _ i => n - (intOf i).toNat)
  case atStart => exact ⟨0, Nat.zero_le _, rfl, by intro h; simp at h⟩
  case round =>
    obtain ⟨k, hk, rfl, ht⟩ := hrel
    by_cases hlt : k < n
    · obtain ⟨b, o, y, rfl, hbl, hxk, hc⟩ := hr.at_ hlt
      by_cases hxy : x = y
      · subst hxy
        go_wp2
        go_ret
        exact ⟨_, rfl, .inr ⟨by omega, memB_iff.2 (List.mem_of_getElem? hxk.out)⟩, rfl⟩
      · have hne : (x == y) = false := by simp [hxy]
        have HX := Lib.hid hxy
        clear hxy
        go_wp2
        go_round
        case rel => exact ⟨k + 1, by omega, by go_num, by rw [take_snoc hxk.out]; simp only [List.mem_append, List.mem_singleton]; exact fun h => h.elim ht.out HX.out⟩
        case measure => simp [intOf]; omega
    · have h := ht.out
      rw [List.take_of_length_le (by have := HL.out; omega)] at h
      have H := Lib.hid h
      clear h
      go_wp2
      go_ret
      exact ⟨_, rfl, .inl ⟨rfl, memB_no.2 H.out⟩, rfl⟩
set_option maxHeartbeats 400000 in
theorem contains_eq (A : Option Addr) (n c : Nat) (xs : List Int) (x : Int) (w : World) (hr : Rd w 1 A n (I xs)) (hn : n ≤ 4503599627370496) (r : Bool) (hR : memB xs x = r) :
    Calls Try.prog 49 #[.slice A n c, .int .i64 x] w fun e w' => e = .returned (.bool r) ∧ w = w' := by
  have HR := Lib.hid hR
  clear hR
  go_enter Try.func49, Try.ntmps49
  go_wp2_with fail
  refine (index_any A n c xs x _ hr hn).mono ?_
  rintro e w1 ⟨q, rfl, hq, rfl⟩
  rcases hq.out with ⟨h1, h2⟩ | ⟨h1, h2⟩
  · subst h1
    rw [HR.out] at h2
    subst h2
    go_wp2
    go_ret
    exact ⟨rfl, rfl⟩
  · rw [HR.out] at h2
    subst h2
    go_wp2
    go_ret
    exact ⟨rfl, rfl⟩
set_option maxHeartbeats 1000000 in
theorem l1Has_eq (A : Option Addr) (n c : Nat) (xs : List Int) (x : Int) (w : World) (hr : Rd w 1 A n (I xs)) (hn : n ≤ 4503599627370496) (r : Bool) (hR : memB xs x = r) :
    Calls Try.prog 77 #[.slice A n c, .int .i64 x] w fun e w' => e = .returned (.bool r) ∧ w = w' := by
  have HR := Lib.hid hR
  have HL := Lib.hid hr.len
  clear hR
  go_enter Try.func77, Try.ntmps77
  go_wp2
  go_loop [5] (fun i => ∃ k : Nat, k ≤ n ∧ i = .int .i64 k ∧ Hid (x ∉ xs.take k)) (fun i => n - (intOf i).toNat)
  case atStart => exact ⟨0, Nat.zero_le _, rfl, by intro h; simp at h⟩
  case round =>
    obtain ⟨k, hk, rfl, ht⟩ := hrel
    by_cases hlt : k < n
    · obtain ⟨b, o, y, rfl, hbl, hxk, hc⟩ := hr.at_ hlt
      by_cases hxy : y = x
      · subst hxy
        go_wp2
        go_ret
        exact ⟨ret_bool (by rw [← HR.out]; exact (memB_iff.2 (List.mem_of_getElem? hxk.out)).symm), rfl⟩
      · have hne : (y == x) = false := by simp [hxy]
        have HX := Lib.hid hxy
        clear hxy
        go_wp2
        go_round
        case rel => exact ⟨k + 1, by omega, by go_num, by rw [take_snoc hxk.out]; simp only [List.mem_append, List.mem_singleton]; exact fun h => h.elim ht.out (fun e => HX.out e.symm)⟩
        case measure => simp [intOf]; omega
    · have h := ht.out
      rw [List.take_of_length_le (by have := HL.out; omega)] at h
      have H := Lib.hid h
      clear h
      go_wp2
      go_ret
      exact ⟨ret_bool (by rw [← HR.out]; exact (memB_no.2 H.out).symm), rfl⟩

theorem in_ok {x : REntry} (h : entBad x = false) : inB x.f0 (-1) 15 = true := by
  simp [entBad] at h
  exact inB_iff.2 (by omega)
theorem in_no {x : REntry} (h : inB x.f0 (-1) 15 = false) : entBad x = true := by
  have h0 : ¬ (-1 ≤ x.f0 ∧ x.f0 ≤ 15) := fun hh => by rw [inB_iff.2 hh] at h; cases h
  simp [entBad]; omega
theorem in_yes {x : REntry} (h : inB x.f0 (-1) 15 = true) (hn : x.f0 ≠ -1) : entBad x = false ∧ entHas x = true := by
  obtain ⟨h0, h1⟩ := inB_iff.1 h
  have e : (x.f0 == -1) = false := by simp [hn]
  exact ⟨by simp [entBad, e]; omega, by simp [entHas, hn]⟩
theorem any_take_snoc {p : REntry → Bool} {l : List REntry} {k : Nat} {x : REntry} (hx : l[k]? = some x) : (l.take (k + 1)).any p = ((l.take k).any p || p x) := by
  rw [List.take_add_one, hx, List.any_append]; simp
set_option maxHeartbeats 2000000 in
theorem l4Leaf_eq (A : Option Addr) (n c : Nat) (es : List REntry) (w : World) (hr : Rd w 2 A n (J cEntry es)) (hn : n ≤ 4503599627370496) (r : Bool) (hR : leafB es = r) :
    Calls Try.prog 58 #[.slice A n c] w fun e w' => e = .returned (.bool r) ∧ w = w' := by
  have HL := Lib.hid (hr.lenS posEntry cEntry_len)
  have HR := Lib.hid hR
  clear hR
  go_enter Try.func58, Try.ntmps58
  go_wp2
  go_loop [3, 4] (fun s i => ∃ (k : Nat) (b : Bool), k ≤ n ∧ i = .int .i64 k ∧ s = .bool b ∧ Hid ((es.take k).any entHas = b) ∧ Hid ((es.take k).any entBad = false)) (fun _ i => n - (intOf i).toNat)
  case atStart => exact ⟨0, false, Nat.zero_le _, rfl, rfl, by rfl, by rfl⟩
  case round =>
    obtain ⟨k, s, hk, rfl, rfl, hs, ht⟩ := hrel
    by_cases hlt : k < n
    · obtain ⟨b, o, x, rfl, hbl, hxk, hc0, hc1⟩ := atEntry hr hlt
      have bad : Hid (entBad x = true → leafB es = false) := fun h => by
        have : es.any entBad = true := List.any_eq_true.2 ⟨x, List.mem_of_getElem? hxk.out, h⟩
        simp [leafB, this]
      cases hin : inB x.f0 (-1) 15
      · have HI := Lib.hid hin
        clear hin
        go_wp2_with fail
        refine (l1In_eq HI.out _).mono ?_
        rintro e w1 ⟨rfl, rfl⟩
        go_wp2
        go_ret
        exact ⟨ret_bool (by rw [← HR.out, bad.out (in_no HI.out)]), rfl⟩
      · have HI := Lib.hid hin
        clear hin
        obtain ⟨f0, f1⟩ := x
        simp only at hc0 hc1
        by_cases hf : f0 = -1
        · subst hf
          have HB : Hid (entBad ⟨-1, f1⟩ = f1) := bad_none
          cases f1
          · cases s
            all_goals
              go_wp2_with fail
              refine (l1In_eq HI.out _).mono ?_
              rintro e w1 ⟨rfl, rfl⟩
              go_wp2
              go_round
              case rel => exact ⟨k + 1, _, by omega, by go_num, rfl, by rw [any_take_snoc hxk.out, hs.out]; rfl, by rw [any_take_snoc hxk.out, ht.out, HB.out]; rfl⟩
              case measure => simp [intOf]; omega
          · go_wp2_with fail
            refine (l1In_eq HI.out _).mono ?_
            rintro e w1 ⟨rfl, rfl⟩
            go_wp2
            go_ret
            exact ⟨ret_bool (by rw [← HR.out, bad.out HB.out]), rfl⟩
        · have hne : (f0 == -1) = false := by simp [hf]
          have hne2 : (f0 != -1) = true := by simp [hf]
          have HY := Lib.hid (in_yes HI.out hf)
          clear hf
          cases s
          all_goals
            go_wp2_with fail
            refine (l1In_eq HI.out _).mono ?_
            rintro e w1 ⟨rfl, rfl⟩
            go_wp2
            go_round
            case rel => exact ⟨k + 1, true, by omega, by go_num, rfl, by rw [any_take_snoc hxk.out, hs.out, HY.out.2]; rfl, by rw [any_take_snoc hxk.out, ht.out, HY.out.1]; rfl⟩
            case measure => simp [intOf]; omega
    · have h1 := hs.out
      have h2 := ht.out
      rw [List.take_of_length_le (by have := HL.out; omega)] at h1 h2
      have HQ : Hid (r = (decide (n = 4) && s)) := by
        show r = _
        rw [← HR.out, leafB, h1, h2, HL.out]; simp
      clear h1 h2
      cases s
      · go_wp2
        go_ret
        exact ⟨ret_bool (by rw [HQ.out]; simp), rfl⟩
      · by_cases h4 : n = 4
        · subst h4
          go_wp2
          go_ret
          exact ⟨ret_bool (by rw [HQ.out]; rfl), rfl⟩
        · have h9 : ((n : Int) == 4) = false := by simp; omega
          have HN := Lib.hid h4
          clear h4
          go_wp2
          go_ret
          exact ⟨ret_bool (by rw [HQ.out]; simp [HN.out]), rfl⟩
end Go.Proofs.Ytaaocnfbbajphaa
