/- Contracts of given, TakeFrame, FreeGuest, GrantFrames. Lengths at most 2^20. -/
import Derived.Test.YtppnmpkefchknaaFb
namespace Go.Proofs.Ytppnmpkefchknaa
open Go.RowKit
set_option linter.unusedVariables false
set_option linter.unusedSimpArgs false

/-- the frames fs go to g -/
def setL (xs : List Int) (fs : List Int) (g : Int) : List Int := fs.foldl (fun l f => l.set f.toNat g) xs
theorem setL_len (xs fs : List Int) (g : Int) : (setL xs fs g).length = xs.length := by
  unfold setL
  induction fs generalizing xs with
  | nil => rfl
  | cons f fs ih => rw [List.foldl_cons, ih]; simp
theorem setL_snoc (xs fs : List Int) (f g : Int) : setL xs (fs ++ [f]) g = (setL xs fs g).set f.toNat g := by
  unfold setL; rw [List.foldl_append]; rfl

set_option maxHeartbeats 2000000 in
theorem given_any (A A2 : Option Addr) (n c m c2 : Nat) (xs fs : List Int) (g : Int) (w : World) (hr : Rd w 1 A n (I xs)) (hr2 : Rd w 1 A2 m (I fs)) (hn : n ≤ 1048576) (hm : m ≤ 1048576) (hf : ∀ f ∈ fs, 0 ≤ f ∧ f < (n : Int)) :
    Calls Try.prog 60 #[.slice A n c, .slice A2 m c2, .int .i64 g] w fun e w' => ∃ A' c', e = .returned (.slice A' n c') ∧ Own w' w.heap.size (ti A' n c' (setL xs fs g)) ∧ Below w.heap.size w w' := by
  have hl := hr.len
  have hl2 := hr2.len
  have HF := Lib.hid hf
  clear hf
  go_enter Try.func60, Try.ntmps60
  go_wp2_with fail
  refine (copyInts_any _ _ _ xs _ hr hn).mono ?_
  rintro e w1 ⟨A1, c1, rfl, ho1, hb1⟩
  go_wp2
  go_loopw [9, 14] (fun x i wr => ∃ k : Nat, k ≤ m ∧ i = .int .i64 k ∧ Own wr w.heap.size (ti A1 n c1 (setL xs (fs.take k) g)) ∧ Below w.heap.size w wr) (fun _ i _ => m - (intOf i).toNat)
  case atStart => exact ⟨0, Nat.zero_le _, rfl, by simpa [setL] using ho1, hb1⟩
  case round =>
    obtain ⟨k, hk, rfl, hO, hB⟩ := hrel
    by_cases hlt : k < m
    · obtain ⟨b, o, f, rfl, hbl, hfk, hc⟩ := (hr2.keep hB).at_ hlt
      obtain ⟨hf0, hf1⟩ := HF.out f (List.mem_of_getElem? hfk.out)
      obtain ⟨gg, rfl⟩ := own_some hO (by omega)
      obtain ⟨j, rfl⟩ := Int.eq_ofNat_of_zero_le hf0
      have hjn : j < n := by omega
      obtain ⟨⟨y, hy⟩, hfr, hs, hgr⟩ := own_store hO hjn g
      have hU := Lib.hid (setL_snoc xs (fs.take k) (j : Int) g)
      have HS := Lib.hid hs
      have hgb := (World.ownsRow.lt hO gg rfl).1
      clear hs hgr hO ho1
      go_wp2
      go_roundw
      case rel =>
        refine ⟨k + 1, by omega, by go_num, ?_, hB.setCell (by exact hgb) _⟩
        have := HS.out
        rw [take_snoc hfk.out, hU.out, Int.toNat_natCast]
        exact this
      case measure => simp [intOf]; omega
    · have HO := Lib.hid hO
      clear hO
      go_wp2
      go_ret
      have := HO.out
      rw [List.take_of_length_le (by omega)] at this
      exact ⟨A1, c1, rfl, this, hB⟩

theorem framesL_lt {xs : List Int} {g : Int} : ∀ f ∈ framesL xs g, 0 ≤ f ∧ f < (xs.length : Int) := by
  intro f hf
  unfold framesL upTo at hf
  obtain ⟨i, hi, rfl⟩ := List.mem_map.1 hf
  have := List.mem_range.1 (List.mem_filter.1 hi).1
  omega
theorem framesL_len {xs : List Int} {g : Int} : (framesL xs g).length ≤ xs.length := upTo_len _ _ _
theorem ownB_len {xs : List Int} (h : ownB xs = true) : 1 ≤ xs.length ∧ xs.length ≤ 16 := by
  simp only [ownB, Bool.and_eq_true] at h
  have := inB_iff.1 h.1; omega


def takeOk (xs : List Int) (g f : Int) : Bool := ownB xs && (inB g 1 4 && (inB f 0 ((xs.length : Int) - 1) && xs[f.toNat]?.getD 0 == g))
def takeL (xs : List Int) (f : Int) : List Int := xs.set f.toNat 0



set_option maxHeartbeats 2000000 in
theorem i_TakeFrame_any (A : Option Addr) (n c : Nat) (xs : List Int) (g f : Int) (w : World) (hr : Rd w 1 A n (I xs)) (hn : n ≤ 1048576) :
    Calls Try.prog 19 #[.slice A n c, .int .i64 g, .int .i64 f] w fun e w' => ∃ A' c', e = .returned (.tuple #[.slice A' (selL (takeOk xs g f) (takeL xs f)).length c', .bool (takeOk xs g f)]) ∧ Own w' w.heap.size (ti A' (selL (takeOk xs g f) (takeL xs f)).length c' (selL (takeOk xs g f) (takeL xs f))) ∧ Below w.heap.size w w' := by
  have hl := hr.len
  unfold takeOk
  rw [hl]
  cases h2 : inB f 0 ((n : Int) - 1)
  · have H2 := Lib.hid h2
    clear h2 hl
    cases h0 : ownB xs
    all_goals have H0 := Lib.hid h0
    all_goals clear h0
    · go_enter Try.func19, Try.ntmps19
      go_wp2_with fail
      refine (i_AreOwners_eq _ _ _ xs _ hr (by omega) _ H0.out).mono ?_
      rintro e w1 ⟨rfl, rfl⟩
      go_wp2
      go_ret2
      exact ⟨none, 0, rfl, own_nil _ _, Below.refl _ _⟩
    · cases h1 : inB g 1 4
      all_goals have H1 := Lib.hid h1
      all_goals clear h1
      · go_enter Try.func19, Try.ntmps19
        go_wp2_with fail
        refine (i_AreOwners_eq _ _ _ xs _ hr (by omega) _ H0.out).mono ?_
        rintro e w1 ⟨rfl, rfl⟩
        go_wp2_with fail
        refine (isGuest_eq H1.out _).mono ?_
        rintro e w1 ⟨rfl, rfl⟩
        go_wp2
        go_ret2
        exact ⟨none, 0, rfl, own_nil _ _, Below.refl _ _⟩
      · go_enter Try.func19, Try.ntmps19
        go_wp2_with fail
        refine (i_AreOwners_eq _ _ _ xs _ hr (by omega) _ H0.out).mono ?_
        rintro e w1 ⟨rfl, rfl⟩
        go_wp2_with fail
        refine (isGuest_eq H1.out _).mono ?_
        rintro e w1 ⟨rfl, rfl⟩
        go_wp2_with fail
        refine (inside_eq H2.out _).mono ?_
        rintro e w1 ⟨rfl, rfl⟩
        go_wp2
        go_ret2
        exact ⟨none, 0, rfl, own_nil _ _, Below.refl _ _⟩
  · obtain ⟨j, b, o, x, rfl, hjn, rfl, hbl, hxj, hc⟩ := open_at hr h2
    have H2 := Lib.hid h2
    have hsome : (xs[((j : Int)).toNat]?.getD 0 == g) = (x == g) := by rw [Int.toNat_natCast, hxj.out]; rfl
    rw [hsome]
    clear h2 hsome
    have hj0 : (0 : Int) ≤ (j : Int) := by omega
    have hj1 : (j : Int) < (n : Int) := by omega
    by_cases hxg : x = g
    · subst hxg
      have hne : (x != x) = false := by simp
      have hee := Lib.hid (show (x == x) = true by simp)
      rw [hee.out]
      cases h0 : ownB xs
      all_goals have H0 := Lib.hid h0
      all_goals clear h0
      · go_enter Try.func19, Try.ntmps19
        go_wp2_with fail
        refine (i_AreOwners_eq _ _ _ xs _ hr (by omega) _ H0.out).mono ?_
        rintro e w1 ⟨rfl, rfl⟩
        go_wp2
        go_ret2
        exact ⟨none, 0, rfl, own_nil _ _, Below.refl _ _⟩
      · cases h1 : inB x 1 4
        all_goals have H1 := Lib.hid h1
        all_goals clear h1
        · go_enter Try.func19, Try.ntmps19
          go_wp2_with fail
          refine (i_AreOwners_eq _ _ _ xs _ hr (by omega) _ H0.out).mono ?_
          rintro e w1 ⟨rfl, rfl⟩
          go_wp2_with fail
          refine (isGuest_eq H1.out _).mono ?_
          rintro e w1 ⟨rfl, rfl⟩
          go_wp2
          go_ret2
          exact ⟨none, 0, rfl, own_nil _ _, Below.refl _ _⟩
        · go_enter Try.func19, Try.ntmps19
          go_wp2_with fail
          refine (i_AreOwners_eq _ _ _ xs _ hr (by omega) _ H0.out).mono ?_
          rintro e w1 ⟨rfl, rfl⟩
          go_wp2_with fail
          refine (isGuest_eq H1.out _).mono ?_
          rintro e w1 ⟨rfl, rfl⟩
          go_wp2_with fail
          refine (inside_eq H2.out _).mono ?_
          rintro e w1 ⟨rfl, rfl⟩
          go_wp2_with fail
          have hr2 := Rd.one w (.int .i64 (j : Int)) 3
          refine (given_any _ _ _ _ _ _ xs [(j : Int)] _ _ (hr.keep (below_alloc _ _)) hr2 hn (by omega) (by intro f hf; simp at hf; omega)).mono ?_
          rintro e w1 ⟨A1, c1, rfl, ho, hb⟩
          go_wp2
          go_ret2
          refine ⟨A1, c1, ?_, ?_, below_next (below_alloc _ _) hb⟩
          · have e : (selL true (takeL xs (j : Int))).length = n := by simp [selL, takeL, hl]
            rw [Bool.true_and, Bool.true_and, Bool.true_and, e]
            rfl
          · have e : (selL true (takeL xs (j : Int))).length = n := by simp [selL, takeL, hl]
            rw [Bool.true_and, Bool.true_and, Bool.true_and, e]
            exact own_less ho (by simp)
    · have hne : (x != g) = true := by simp [hxg]
      have hee := Lib.hid (show (x == g) = false by simp [hxg])
      rw [hee.out]
      cases h0 : ownB xs
      all_goals have H0 := Lib.hid h0
      all_goals clear h0
      · go_enter Try.func19, Try.ntmps19
        go_wp2_with fail
        refine (i_AreOwners_eq _ _ _ xs _ hr (by omega) _ H0.out).mono ?_
        rintro e w1 ⟨rfl, rfl⟩
        go_wp2
        go_ret2
        exact ⟨none, 0, rfl, own_nil _ _, Below.refl _ _⟩
      · cases h1 : inB g 1 4
        all_goals have H1 := Lib.hid h1
        all_goals clear h1
        · go_enter Try.func19, Try.ntmps19
          go_wp2_with fail
          refine (i_AreOwners_eq _ _ _ xs _ hr (by omega) _ H0.out).mono ?_
          rintro e w1 ⟨rfl, rfl⟩
          go_wp2_with fail
          refine (isGuest_eq H1.out _).mono ?_
          rintro e w1 ⟨rfl, rfl⟩
          go_wp2
          go_ret2
          exact ⟨none, 0, rfl, own_nil _ _, Below.refl _ _⟩
        · go_enter Try.func19, Try.ntmps19
          go_wp2_with fail
          refine (i_AreOwners_eq _ _ _ xs _ hr (by omega) _ H0.out).mono ?_
          rintro e w1 ⟨rfl, rfl⟩
          go_wp2_with fail
          refine (isGuest_eq H1.out _).mono ?_
          rintro e w1 ⟨rfl, rfl⟩
          go_wp2_with fail
          refine (inside_eq H2.out _).mono ?_
          rintro e w1 ⟨rfl, rfl⟩
          go_wp2
          go_ret2
          exact ⟨none, 0, rfl, own_nil _ _, Below.refl _ _⟩


set_option maxHeartbeats 2000000 in
theorem s_TakeFrame_any (A : Option Addr) (n c : Nat) (xs : List Int) (g f : Int) (w : World) (hr : Rd w 1 A n (I xs)) (hn : n ≤ 1048576) :
    Calls Try.prog 21 #[.slice A n c, .int .i64 g, .int .i64 f] w fun e w' => ∃ A' c', e = .returned (.tuple #[.slice A' (selL (takeOk xs g f) (takeL xs f)).length c', .bool (takeOk xs g f)]) ∧ Own w' w.heap.size (ti A' (selL (takeOk xs g f) (takeL xs f)).length c' (selL (takeOk xs g f) (takeL xs f))) ∧ Below w.heap.size w w' := by
  have hl := hr.len
  unfold takeOk
  rw [hl, ← Bool.and_assoc]
  cases h2 : inB f 0 ((n : Int) - 1)
  · have H2 := Lib.hid h2
    clear h2 hl
    cases h0 : (ownB xs && inB g 1 4)
    all_goals have H0 := Lib.hid h0
    all_goals clear h0
    · go_enter Try.func21, Try.ntmps21
      go_wp2_with fail
      refine (l2Guest_eq _ _ _ xs _ _ hr hn H0.out).mono ?_
      rintro e w1 ⟨rfl, rfl⟩
      go_wp2
      go_ret2
      exact ⟨_, 0, rfl, own_new0 _ _ rfl, below_alloc _ _⟩
    · go_enter Try.func21, Try.ntmps21
      go_wp2_with fail
      refine (l2Guest_eq _ _ _ xs _ _ hr hn H0.out).mono ?_
      rintro e w1 ⟨rfl, rfl⟩
      go_wp2_with fail
      refine (l1In_eq H2.out _).mono ?_
      rintro e w1 ⟨rfl, rfl⟩
      go_wp2
      go_ret2
      exact ⟨_, 0, rfl, own_new0 _ _ rfl, below_alloc _ _⟩
  · obtain ⟨j, b, o, x, rfl, hjn, rfl, hbl, hxj, hc⟩ := open_at hr h2
    have H2 := Lib.hid h2
    have hsome : (xs[((j : Int)).toNat]?.getD 0 == g) = (x == g) := by rw [Int.toNat_natCast, hxj.out]; rfl
    rw [hsome]
    clear h2 hsome
    have hj0 : (0 : Int) ≤ (j : Int) := by omega
    have hj1 : (j : Int) < (n : Int) := by omega
    by_cases hxg : x = g
    · subst hxg
      have hne : (x != x) = false := by simp
      have hee := Lib.hid (show (x == x) = true by simp)
      rw [hee.out]
      cases h0 : (ownB xs && inB x 1 4)
      all_goals have H0 := Lib.hid h0
      all_goals clear h0
      · go_enter Try.func21, Try.ntmps21
        go_wp2_with fail
        refine (l2Guest_eq _ _ _ xs _ _ hr hn H0.out).mono ?_
        rintro e w1 ⟨rfl, rfl⟩
        go_wp2
        go_ret2
        exact ⟨_, 0, rfl, own_new0 _ _ rfl, below_alloc _ _⟩
      · go_enter Try.func21, Try.ntmps21
        go_wp2_with fail
        refine (l2Guest_eq _ _ _ xs _ _ hr hn H0.out).mono ?_
        rintro e w1 ⟨rfl, rfl⟩
        go_wp2_with fail
        refine (l1In_eq H2.out _).mono ?_
        rintro e w1 ⟨rfl, rfl⟩
        go_wp2_with fail
        refine (l1Own_any _ _ _ xs _ hr hn).mono ?_
        rintro e w1 ⟨A1, c1, rfl, ho, hb⟩
        obtain ⟨gg, rfl⟩ := own_some ho (by omega)
        obtain ⟨⟨y, hy⟩, hfr, hs, hgr⟩ := own_store ho hjn 0
        have hgb := (World.ownsRow.lt ho gg rfl).1
        have HS := Lib.hid hs
        clear hs hgr ho
        go_wp2
        go_ret2
        have e : (selL true (takeL xs (j : Int))).length = n := by simp [selL, takeL, hl]
        refine ⟨some ⟨gg, 0, none⟩, c1, ?_, ?_, hb.setCell (by exact hgb) _⟩
        · rw [Bool.true_and, Bool.true_and, e]
          rfl
        · rw [Bool.true_and, Bool.true_and, e]
          exact HS.out
    · have hne : (x != g) = true := by simp [hxg]
      have hee := Lib.hid (show (x == g) = false by simp [hxg])
      rw [hee.out]
      cases h0 : (ownB xs && inB g 1 4)
      all_goals have H0 := Lib.hid h0
      all_goals clear h0
      · go_enter Try.func21, Try.ntmps21
        go_wp2_with fail
        refine (l2Guest_eq _ _ _ xs _ _ hr hn H0.out).mono ?_
        rintro e w1 ⟨rfl, rfl⟩
        go_wp2
        go_ret2
        exact ⟨_, 0, rfl, own_new0 _ _ rfl, below_alloc _ _⟩
      · go_enter Try.func21, Try.ntmps21
        go_wp2_with fail
        refine (l2Guest_eq _ _ _ xs _ _ hr hn H0.out).mono ?_
        rintro e w1 ⟨rfl, rfl⟩
        go_wp2_with fail
        refine (l1In_eq H2.out _).mono ?_
        rintro e w1 ⟨rfl, rfl⟩
        go_wp2
        go_ret2
        exact ⟨_, 0, rfl, own_new0 _ _ rfl, below_alloc _ _⟩

end Go.Proofs.Ytppnmpkefchknaa
