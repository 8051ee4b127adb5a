/- Contracts of what is drawn for the laws of owners. The code of at most 65536 bytes. -/
import Derived.Test.YtppnmpkefchknaaOw
import Derived.Test.YtppnmpkefchknaaFh
import Derived.Test.YtppnmpkefchknaaSpo
namespace Go.Proofs.Ytppnmpkefchknaa
open Go.RowKit
set_option linter.unusedVariables false
set_option linter.unusedSimpArgs false

theorem Lr.ofCall {B : Nat} {w w' : World} {g k k' : Nat} {t : Thing} (h : Cu w B g k) (hc : Cu w' B g k') (hf : Far g w w') (ho : Own w' w.heap.size t) : Lr B w g k' w' t := ⟨⟨h.lt, hf, hc⟩, ho⟩
/-- behind a reader of the call's own -/
theorem Lr.done {w w1 w' : World} {k : Nat} {t : Thing} (L : Lr w.heap.size w1 w.heap.size k w' t) (hb : Below w.heap.size w w1) : Own w' w.heap.size t ∧ Below w.heap.size w w' :=
  ⟨own_less L.own hb.size, hb.trans (L.rw.far.below (Nat.le_refl _) hb.size)⟩

/-- drawn: a list of at most 20 numbers, two numbers -/
def Oii (w : World) (e : Ending) (w' : World) : Prop :=
  ∃ (A' : Option Addr) (n' c' : Nat) (xs : List Int) (q m : Int), e = .returned (.tuple #[.slice A' n' c', .int .i64 q, .int .i64 m]) ∧ n' ≤ 20 ∧ Own w' w.heap.size (ti A' n' c' xs) ∧ Below w.heap.size w w'
section
variable (A : Option Addr) (n ca : Nat) (w : World) (h : Code w w.heap.size A n)
include h
set_option maxHeartbeats 1000000 in
theorem DrawAreOwners_any :
    Calls Try.prog 68 #[.slice A n ca] w fun e w' => ∃ (A' : Option Addr) (n' c' : Nat) (xs : List Int), e = .returned (.slice A' n' c') ∧ n' ≤ 20 ∧ Own w' w.heap.size (ti A' n' c' xs) ∧ Below w.heap.size w w' := by
  have HN := Lib.hid (Cu.new (c := ca) h)
  clear h
  go_enter Try.func68, Try.ntmps68
  go_wp2_with fail
  refine (owners_any HN.out (by omega)).mono ?_
  rintro e w1 ⟨A1, n1, c1, xs, rfl, hn1, ho1, ⟨k1, hk1, hc1⟩, hf1⟩
  have HL := Lib.hid ((Lr.ofCall HN.out hc1 hf1 ho1).done (below_alloc w _))
  clear hc1 hf1 ho1
  go_wp2
  go_ret
  exact ⟨A1, n1, c1, xs, rfl, hn1, HL.out.1, HL.out.2⟩
set_option maxHeartbeats 1000000 in
theorem DrawFramesOf_any :
    Calls Try.prog 22 #[.slice A n ca] w fun e w' => ∃ (A' : Option Addr) (n' c' : Nat) (xs : List Int) (q : Int), e = .returned (.tuple #[.slice A' n' c', .int .i64 q]) ∧ n' ≤ 20 ∧ (-1 ≤ q ∧ q ≤ 5) ∧ Own w' w.heap.size (ti A' n' c' xs) ∧ Below w.heap.size w w' := by
  have HN := Lib.hid (Cu.new (c := ca) h)
  clear h
  go_enter Try.func22, Try.ntmps22
  go_wp2_with fail
  refine (owners_any HN.out (by omega)).mono ?_
  rintro e w1 ⟨A1, n1, c1, xs, rfl, hn1, ho1, ⟨k1, hk1, hc1⟩, hf1⟩
  have HL := Lib.hid (Lr.ofCall HN.out hc1 hf1 ho1)
  clear hc1 hf1 ho1
  go_wp2_with fail
  refine (guest_any HL.out.rw.cu (by omega)).mono ?_
  rintro e w2 ⟨q, hq, rfl, ⟨k2, hk2, hc2⟩, hf2⟩
  have HD := Lib.hid ((HL.out.step hc2 hf2).done (below_alloc w _))
  clear hc2 hf2
  go_wp2
  go_ret2
  exact ⟨A1, n1, c1, xs, q, rfl, hn1, hq, HD.out.1, HD.out.2⟩
set_option maxHeartbeats 1000000 in
theorem DrawGrantFrames_any :
    Calls Try.prog 15 #[.slice A n ca] w (Oii w) := by
  have HN := Lib.hid (Cu.new (c := ca) h)
  clear h
  go_enter Try.func15, Try.ntmps15
  go_wp2_with fail
  refine (owners_any HN.out (by omega)).mono ?_
  rintro e w1 ⟨A1, n1, c1, xs, rfl, hn1, ho1, ⟨k1, hk1, hc1⟩, hf1⟩
  have HL := Lib.hid (Lr.ofCall HN.out hc1 hf1 ho1)
  clear hc1 hf1 ho1
  go_wp2_with fail
  refine (guest_any HL.out.rw.cu (by omega)).mono ?_
  rintro e w2 ⟨q, hq, rfl, ⟨k2, hk2, hc2⟩, hf2⟩
  have HL2 := Lib.hid (HL.out.step hc2 hf2)
  clear hc2 hf2
  go_wp2_with fail
  refine (among_lit (-1) 8 7 _ _ HL2.out.rw.cu (by omega) rfl (by omega) (by omega) (by decide)).mono ?_
  rintro e w3 ⟨m, _, rfl, ⟨k3, hk3, hc3⟩, hf3⟩
  have HD := Lib.hid ((HL2.out.step hc3 hf3).done (below_alloc w _))
  clear hc3 hf3
  go_wp2
  go_ret3
  exact ⟨A1, n1, c1, xs, q, m, rfl, hn1, HD.out.1, HD.out.2⟩
set_option maxHeartbeats 1000000 in
theorem DrawGrantRun_any :
    Calls Try.prog 37 #[.slice A n ca] w (Oii w) := by
  have HN := Lib.hid (Cu.new (c := ca) h)
  clear h
  go_enter Try.func37, Try.ntmps37
  go_wp2_with fail
  refine (owners_any HN.out (by omega)).mono ?_
  rintro e w1 ⟨A1, n1, c1, xs, rfl, hn1, ho1, ⟨k1, hk1, hc1⟩, hf1⟩
  have HL := Lib.hid (Lr.ofCall HN.out hc1 hf1 ho1)
  clear hc1 hf1 ho1
  go_wp2_with fail
  refine (guest_any HL.out.rw.cu (by omega)).mono ?_
  rintro e w2 ⟨q, hq, rfl, ⟨k2, hk2, hc2⟩, hf2⟩
  have HL2 := Lib.hid (HL.out.step hc2 hf2)
  clear hc2 hf2
  go_wp2_with fail
  refine (among_lit 0 16 7 _ _ HL2.out.rw.cu (by omega) rfl (by omega) (by omega) (by decide)).mono ?_
  rintro e w3 ⟨m, _, rfl, ⟨k3, hk3, hc3⟩, hf3⟩
  have HD := Lib.hid ((HL2.out.step hc3 hf3).done (below_alloc w _))
  clear hc3 hf3
  go_wp2
  go_ret3
  exact ⟨A1, n1, c1, xs, q, m, rfl, hn1, HD.out.1, HD.out.2⟩
set_option maxHeartbeats 1000000 in
theorem DrawTakeFrame_any :
    Calls Try.prog 20 #[.slice A n ca] w (Oii w) := by
  have HN := Lib.hid (Cu.new (c := ca) h)
  clear h
  go_enter Try.func20, Try.ntmps20
  go_wp2_with fail
  refine (owners_any HN.out (by omega)).mono ?_
  rintro e w1 ⟨A1, n1, c1, xs, rfl, hn1, ho1, ⟨k1, hk1, hc1⟩, hf1⟩
  have HL := Lib.hid (Lr.ofCall HN.out hc1 hf1 ho1)
  clear hc1 hf1 ho1
  go_wp2_with fail
  refine (pick_any ((n1 : Int) + 1) HL.out.rw.cu (by omega) (by omega) (by omega)).mono ?_
  rintro e w2 ⟨x, ⟨hx0, hx1, _⟩, rfl, ⟨k2, hk2, hc2⟩, hf2⟩
  have HL2 := Lib.hid (HL.out.step hc2 hf2)
  clear hc2 hf2 HL
  go_wp2_with fail
  refine (pick_any 17 HL2.out.rw.cu (by omega) (by decide) (by decide)).mono ?_
  rintro e w3 ⟨y, ⟨hy0, hy1, _⟩, rfl, ⟨k3, hk3, hc3⟩, hf3⟩
  have HL3 := Lib.hid (HL2.out.step hc3 hf3)
  clear hc3 hf3 HL2
  have hx2 := hx1 (by omega)
  have hy2 := hy1 (by decide)
  clear hx1 hy1
  have hy3 : y < 16 ∨ y = 16 := by omega
  go_wp2_with fail
  obtain ⟨z, hz⟩ : ∃ z, z = x - y / 16 := ⟨_, rfl⟩
  rw [← hz]
  have hz0 : -1 ≤ z ∧ z ≤ 20 := by omega
  clear hz hx2 hy2 hy3
  refine (guest_any HL3.out.rw.cu (by omega)).mono ?_
  rintro e w4 ⟨q, hq, rfl, ⟨k4, hk4, hc4⟩, hf4⟩
  have HL4 := Lib.hid (HL3.out.step hc4 hf4)
  clear hc4 hf4 HL3
  by_cases h0 : 0 ≤ z
  rotate_left
  · have HD := Lib.hid (HL4.out.done (below_alloc w _))
    go_wp2
    go_ret3
    exact ⟨A1, n1, c1, xs, q, z, rfl, hn1, HD.out.1, HD.out.2⟩
  by_cases h1 : z < (n1 : Int)
  rotate_left
  · have HD := Lib.hid (HL4.out.done (below_alloc w _))
    go_wp2
    go_ret3
    exact ⟨A1, n1, c1, xs, q, z, rfl, hn1, HD.out.1, HD.out.2⟩
  go_wp2_with fail
  refine (one_any 2 HL4.out.rw.cu (by omega) (by decide) (by decide)).mono ?_
  rintro e w5 ⟨bb, rfl, ⟨k5, hk5, hc5⟩, hf5⟩
  have HL5 := Lib.hid (HL4.out.step hc5 hf5)
  clear hc5 hf5 HL4
  obtain ⟨z, rfl⟩ := Int.eq_ofNat_of_zero_le h0
  obtain ⟨bf, of, f, rfl, hbl, hfk, hc⟩ := HL5.out.own.rd.at_ (show z < n1 by omega)
  have HD := Lib.hid (HL5.out.done (below_alloc w _))
  cases bb
  · go_wp2
    go_ret3
    exact ⟨_, n1, c1, xs, q, z, rfl, hn1, HD.out.1, HD.out.2⟩
  · go_wp2
    go_ret3
    exact ⟨_, n1, c1, xs, f, z, rfl, hn1, HD.out.1, HD.out.2⟩
set_option maxHeartbeats 1000000 in
theorem DrawOwnersText_any :
    Calls Try.prog 27 #[.slice A n ca] w fun e w' => ∃ (A' : Option Addr) (n' c' : Nat) (xs : List Int), e = .returned (.slice A' n' c') ∧ n' ≤ 20 ∧ Own w' w.heap.size (ti A' n' c' xs) ∧ Below w.heap.size w w' := by
  have HN := Lib.hid h
  clear h
  go_enter Try.func27, Try.ntmps27
  go_wp2_with fail
  refine (DrawAreOwners_any A n ca _ HN.out).mono ?_
  rintro e w1 ⟨A1, n1, c1, xs, rfl, h1⟩
  have H1 := Lib.hid h1
  clear h1
  go_wp2
  go_ret
  exact ⟨A1, n1, c1, xs, rfl, H1.out⟩
set_option maxHeartbeats 1000000 in
theorem DrawLongestFree_any :
    Calls Try.prog 33 #[.slice A n ca] w fun e w' => ∃ (A' : Option Addr) (n' c' : Nat) (xs : List Int), e = .returned (.slice A' n' c') ∧ n' ≤ 20 ∧ Own w' w.heap.size (ti A' n' c' xs) ∧ Below w.heap.size w w' := by
  have HN := Lib.hid h
  clear h
  go_enter Try.func33, Try.ntmps33
  go_wp2_with fail
  refine (DrawAreOwners_any A n ca _ HN.out).mono ?_
  rintro e w1 ⟨A1, n1, c1, xs, rfl, h1⟩
  have H1 := Lib.hid h1
  clear h1
  go_wp2
  go_ret
  exact ⟨A1, n1, c1, xs, rfl, H1.out⟩
set_option maxHeartbeats 1000000 in
theorem DrawCompactMoves_any :
    Calls Try.prog 39 #[.slice A n ca] w fun e w' => ∃ (A' : Option Addr) (n' c' : Nat) (xs : List Int), e = .returned (.slice A' n' c') ∧ n' ≤ 20 ∧ Own w' w.heap.size (ti A' n' c' xs) ∧ Below w.heap.size w w' := by
  have HN := Lib.hid h
  clear h
  go_enter Try.func39, Try.ntmps39
  go_wp2_with fail
  refine (DrawAreOwners_any A n ca _ HN.out).mono ?_
  rintro e w1 ⟨A1, n1, c1, xs, rfl, h1⟩
  have H1 := Lib.hid h1
  clear h1
  go_wp2
  go_ret
  exact ⟨A1, n1, c1, xs, rfl, H1.out⟩
set_option maxHeartbeats 1000000 in
theorem DrawFreeGuest_any :
    Calls Try.prog 43 #[.slice A n ca] w fun e w' => ∃ (A' : Option Addr) (n' c' : Nat) (xs : List Int) (q : Int), e = .returned (.tuple #[.slice A' n' c', .int .i64 q]) ∧ n' ≤ 20 ∧ (-1 ≤ q ∧ q ≤ 5) ∧ Own w' w.heap.size (ti A' n' c' xs) ∧ Below w.heap.size w w' := by
  have HN := Lib.hid h
  clear h
  go_enter Try.func43, Try.ntmps43
  go_wp2_with fail
  refine (DrawFramesOf_any A n ca _ HN.out).mono ?_
  rintro e w1 ⟨A1, n1, c1, xs, q, rfl, h1⟩
  have H1 := Lib.hid h1
  clear h1
  go_wp2
  go_ret2
  exact ⟨A1, n1, c1, xs, q, rfl, H1.out⟩
set_option maxHeartbeats 2000000 in
theorem DrawParseOwners_any :
    Calls Try.prog 31 #[.slice A n ca] w fun e w' => ∃ q : ByteArray, q.size ≤ 100 ∧ e = .returned (.string q) ∧ Below w.heap.size w w' := by
  have HN := Lib.hid (Cu.new (c := ca) h)
  clear h
  go_enter Try.func31, Try.ntmps31
  go_wp2_with fail
  refine (owners_any HN.out (by omega)).mono ?_
  rintro e w1 ⟨A1, n1, c1, xs, rfl, hn1, ho1, ⟨k1, hk1, hc1⟩, hf1⟩
  have HL := Lib.hid (Lr.ofCall HN.out hc1 hf1 ho1)
  have hl : xs.length = n1 := ho1.rd.len
  clear hc1 hf1 ho1
  obtain ⟨b, hb⟩ : ∃ b, b = ownB xs := ⟨_, rfl⟩
  obtain ⟨t, ht, ht3⟩ : ∃ t : List UInt8, selS b (textL xs) = ⟨t.toArray⟩ ∧ t.length ≤ (textL xs).length := by
    cases b
    · exact ⟨[], rfl, Nat.zero_le _⟩
    · exact ⟨_, rfl, Nat.le_refl _⟩
  rw [textL_len] at ht3
  have HB := Lib.hid hb.symm
  have HT := Lib.hid ht
  clear hb ht
  go_wp2_with fail
  refine (s_OwnersText_any A1 n1 c1 xs _ HL.out.own.rd (by omega)).mono ?_
  rw [HB.out, HT.out]
  rintro e w2 ⟨rfl, hb2⟩
  have HL2 := Lib.hid (HL.out.below hb2)
  clear hb2
  go_wp2_with fail
  refine (one_any 4 HL2.out.rw.cu (by omega) (by decide) (by decide)).mono ?_
  rintro e w3 ⟨bb, rfl, ⟨k3, hk3, hc3⟩, hf3⟩
  have HL3 := Lib.hid (HL2.out.step hc3 hf3)
  clear hc3 hf3 HL2
  cases bb
  · have HD := Lib.hid (HL3.out.done (below_alloc w _))
    go_wp2
    go_ret
    exact ⟨_, by rw [mk_size]; omega, rfl, HD.out.2⟩
  · go_wp2_with fail
    refine (spoilt_any t [46, 49, 53] HL3.out.rw.cu (by omega) (by omega) (by decide) (by decide)).mono ?_
    rintro e w4 ⟨q, hq, rfl, ⟨k4, hk4, hc4⟩, hf4⟩
    have HD := Lib.hid ((HL3.out.step hc4 hf4).done (below_alloc w _))
    clear hc4 hf4
    go_wp2
    go_ret
    exact ⟨q, by omega, rfl, HD.out.2⟩
end
end Go.Proofs.Ytppnmpkefchknaa
