/- Contracts of GrantFrames, LongestFree, GrantRun. Lengths at most 2^20. -/
import Derived.Test.YtppnmpkefchknaaFd
namespace Go.Proofs.Ytppnmpkefchknaa
open Go.RowKit
set_option linter.unusedVariables false
set_option linter.unusedSimpArgs false

def grantOk (xs : List Int) (g k : Int) : Bool := ownB xs && (inB g 1 4 && inB k 0 ((framesL xs 0).length : Int))
def grantF (xs : List Int) (k : Int) : List Int := (framesL xs 0).take k.toNat
def grantL (xs : List Int) (g k : Int) : List Int := setL xs (grantF xs k) g
theorem grantL_len (xs : List Int) (g k : Int) : (grantL xs g k).length = xs.length := setL_len _ _ _
theorem grantF_len (xs : List Int) (k : Int) : (grantF xs k).length ≤ xs.length := by
  unfold grantF; rw [List.length_take]; exact Nat.le_trans (Nat.min_le_right _ _) framesL_len
theorem Own.kept2 {w w' : World} {B : Nat} {A : Option Addr} {n c : Nat} {l : List Int} (h : Own w B (ti A n c l)) (hb : Below w.heap.size w w') : Own w' B (ti A n c l) :=
  World.ownsRow.kept (row := none) h (grown_of_below hb _) (by cases A <;> simp [ownBlock_slice, blk])
theorem own_apart' {w w' : World} {B : Nat} {A A' : Option Addr} {n c n' c' : Nat} {l l' : List Int} (h : Own w B (ti A n c l)) (h' : Own w' w.heap.size (ti A' n' c' l')) : blk A = none ∨ blk A ≠ blk A' := by
  cases hA : blk A with
  | none => exact .inl rfl
  | some k =>
    refine .inr fun e => ?_
    have h1 := World.ownsRow.lt h k (by rw [ownBlock_slice]; exact hA)
    have h2 := World.ownsRow.lt h' k (by rw [ownBlock_slice]; exact e.symm)
    omega
theorem own_apart {w w' : World} {B : Nat} {A A' : Option Addr} {n c n' c' : Nat} {l l' : List Int} (_ : Rd w 1 A n (I l)) (h : Own w B (ti A n c l)) (h' : Own w' w.heap.size (ti A' n' c' l')) : blk A' = none ∨ blk A' ≠ blk A := by
  rcases own_apart' h h' with h1 | h1
  · cases hA : blk A' with
    | none => exact .inl rfl
    | some k => exact .inr (by rw [h1]; simp)
  · exact .inr (fun e => h1 e.symm)
theorem own_new0a (w : World) (cs : Array Value) (o : Obj) (h : cs.size = 0) : Own ((w.alloc (.cells cs 3)).alloc o) w.heap.size (ti (some ⟨w.heap.size, 0, none⟩) 0 0 []) := World.ownsRow.alloc (own_new0 w cs h) o
theorem own_new0b (w : World) (cs : Array Value) (o : Obj) (h : cs.size = 0) : Own ((w.alloc o).alloc (.cells cs 3)) w.heap.size (ti (some ⟨w.heap.size + 1, 0, none⟩) 0 0 []) := by
  have := own_new0 (w.alloc o) cs h
  rw [World.size_alloc] at this
  exact own_less this (by simp)
theorem Sep.swap {W0 w : World} {s t : Thing} (S : Sep W0 w [s, t]) : Sep W0 w [t, s] := by
  refine ⟨S.bel, fun i x hx => ?_, fun i j x y hij hx hy => ?_⟩
  · match i, hx with
    | 0, hx => exact S.own 1 x hx
    | 1, hx => exact S.own 0 x hx
  · match i, j, hx, hy with
    | 0, 1, hx, hy => exact S.apart 1 0 x y (by omega) hx hy
    | 1, 0, hx, hy => exact S.apart 0 1 x y (by omega) hx hy
    | 0, 0, _, _ => exact absurd rfl hij
    | 1, 1, _, _ => exact absurd rfl hij
theorem grantF_lt {xs : List Int} {k : Int} : ∀ f ∈ grantF xs k, 0 ≤ f ∧ f < (xs.length : Int) := fun f hf => framesL_lt f (List.mem_of_mem_take hf)


set_option maxHeartbeats 4000000 in
theorem i_GrantFrames_any (A : Option Addr) (n c : Nat) (xs : List Int) (g k : Int) (w : World) (hr : Rd w 1 A n (I xs)) (hn : n ≤ 1048576) :
    Calls Try.prog 16 #[.slice A n c, .int .i64 g, .int .i64 k] w fun e w' => ∃ A' c' A2' c2', e = .returned (.tuple #[.slice A' (selL (grantOk xs g k) (grantL xs g k)).length c', .slice A2' (selL (grantOk xs g k) (grantF xs k)).length c2', .bool (grantOk xs g k)]) ∧ Own w' w.heap.size (ti A' (selL (grantOk xs g k) (grantL xs g k)).length c' (selL (grantOk xs g k) (grantL xs g k))) ∧ Own w' w.heap.size (ti A2' (selL (grantOk xs g k) (grantF xs k)).length c2' (selL (grantOk xs g k) (grantF xs k))) ∧ (blk A' = none ∨ blk A' ≠ blk A2') ∧ Below w.heap.size w w' := by
  have hl := hr.len
  have hfl : (framesL xs 0).length ≤ n := by rw [← hl]; exact framesL_len
  unfold grantOk
  cases h0 : ownB xs
  all_goals have H0 := Lib.hid h0
  all_goals clear h0
  · go_enter Try.func16, Try.ntmps16
    go_wp2_with fail
    refine (i_AreOwners_eq _ _ _ xs _ hr (by omega) _ H0.out).mono ?_
    rintro e w1 ⟨rfl, rfl⟩
    go_wp2
    go_ret3
    exact ⟨none, 0, none, 0, rfl, own_nil _ _, own_nil _ _, .inl rfl, Below.refl _ _⟩
  · cases h1 : inB g 1 4
    all_goals have H1 := Lib.hid h1
    all_goals clear h1
    · go_enter Try.func16, Try.ntmps16
      go_wp2_with fail
      refine (i_AreOwners_eq _ _ _ xs _ hr (by omega) _ H0.out).mono ?_
      rintro e w1 ⟨rfl, rfl⟩
      go_wp2_with fail
      refine (isGuest_eq H1.out _).mono ?_
      rintro e w1 ⟨rfl, rfl⟩
      go_wp2
      go_ret3
      exact ⟨none, 0, none, 0, rfl, own_nil _ _, own_nil _ _, .inl rfl, Below.refl _ _⟩
    · cases h2 : inB k 0 ((framesL xs 0).length : Int)
      all_goals have H2 := Lib.hid h2
      all_goals clear h2
      · go_enter Try.func16, Try.ntmps16
        go_wp2_with fail
        refine (i_AreOwners_eq _ _ _ xs _ hr (by omega) _ H0.out).mono ?_
        rintro e w1 ⟨rfl, rfl⟩
        go_wp2_with fail
        refine (isGuest_eq H1.out _).mono ?_
        rintro e w1 ⟨rfl, rfl⟩
        go_wp2_with fail
        refine (framesOf_any _ _ _ xs _ _ hr hn).mono ?_
        rintro e w1 ⟨A1, c1, rfl, ho1, hb1⟩
        go_wp2_with fail
        refine (inside_eq H2.out _).mono ?_
        rintro e w9 ⟨rfl, rfl⟩
        go_wp2
        go_ret3
        exact ⟨none, 0, none, 0, rfl, own_nil _ _, own_nil _ _, .inl rfl, hb1⟩
      · go_enter Try.func16, Try.ntmps16
        go_wp2_with fail
        refine (i_AreOwners_eq _ _ _ xs _ hr (by omega) _ H0.out).mono ?_
        rintro e w1 ⟨rfl, rfl⟩
        go_wp2_with fail
        refine (isGuest_eq H1.out _).mono ?_
        rintro e w1 ⟨rfl, rfl⟩
        go_wp2_with fail
        refine (framesOf_any _ _ _ xs _ _ hr hn).mono ?_
        rintro e w1 ⟨A1, c1, rfl, ho1, hb1⟩
        go_wp2_with fail
        refine (inside_eq H2.out _).mono ?_
        rintro e w9 ⟨rfl, rfl⟩
        obtain ⟨hk0, hk1⟩ := inB_iff.1 H2.out
        obtain ⟨j, rfl⟩ := Int.eq_ofNat_of_zero_le hk0
        have hj0 : (0 : Int) ≤ (j : Int) := by omega
        go_wp2_with fail
        refine (framesOf_any _ _ _ xs _ _ (hr.keep hb1) hn).mono ?_
        rintro e w2 ⟨A2, c2, rfl, ho2, hb2⟩
        have hcap2 := ti_cap ho2
        have hjf : (j : Int) ≤ (c2 : Int) := by omega
        have hFl := grantF_len xs (j : Int)
        have hFe : (grantF xs (j : Int)).length = j := by unfold grantF; rw [List.length_take, Int.toNat_natCast]; omega
        have hrd : Rd w2 1 A2 j (I (grantF xs (j : Int))) := by
          have := (Own.rd ho2).take_ (k := j) (by show j ≤ (framesL xs 0).length; omega)
          unfold grantF
          rw [Int.toNat_natCast]
          exact this
        have HE := Lib.hid hFe
        clear hFe
        go_wp2_with fail
        refine (copyInts_any _ j _ (grantF xs (j : Int)) _ hrd (by omega)).mono ?_
        rintro e w3 ⟨A3, c3, rfl, ho3, hb3⟩
        go_wp2_with fail
        refine (given_any _ _ n _ j _ xs (grantF xs (j : Int)) _ _ (hr.keep (below_next (below_next hb1 hb2) hb3)) (Own.rd ho3) hn (by omega) (by rw [← hl]; exact grantF_lt)).mono ?_
        rintro e w4 ⟨A4, c4, rfl, ho4, hb4⟩
        go_wp2
        go_ret3
        have e : (selL true (grantL xs g (j : Int))).length = n := by rw [selL, if_pos rfl, grantL_len, hl]
        have e2 : (selL true (grantF xs (j : Int))).length = j := by rw [selL, if_pos rfl]; exact HE.out
        have hb3' := below_next (below_next hb1 hb2) hb3
        have ho3' := (Own.kept2 ho3 hb4)
        refine ⟨A4, c4, A3, c3, ?_, ?_, ?_, ?_, below_next hb3' hb4⟩
        · rw [Bool.true_and, Bool.true_and, e, e2]
          rfl
        · rw [Bool.true_and, Bool.true_and, e]
          exact own_less ho4 hb3'.size
        · rw [Bool.true_and, Bool.true_and, e2]
          exact own_less ho3' (below_next hb1 hb2).size
        · exact own_apart (Own.rd ho3) ho3 ho4

set_option maxHeartbeats 4000000 in
theorem s_GrantFrames_any (A : Option Addr) (n c : Nat) (xs : List Int) (g k : Int) (w : World) (hr : Rd w 1 A n (I xs)) (hn : n ≤ 1048576) :
    Calls Try.prog 17 #[.slice A n c, .int .i64 g, .int .i64 k] w fun e w' => ∃ A' c' A2' c2', e = .returned (.tuple #[.slice A' (selL (grantOk xs g k) (grantL xs g k)).length c', .slice A2' (selL (grantOk xs g k) (grantF xs k)).length c2', .bool (grantOk xs g k)]) ∧ Own w' w.heap.size (ti A' (selL (grantOk xs g k) (grantL xs g k)).length c' (selL (grantOk xs g k) (grantL xs g k))) ∧ Own w' w.heap.size (ti A2' (selL (grantOk xs g k) (grantF xs k)).length c2' (selL (grantOk xs g k) (grantF xs k))) ∧ (blk A' = none ∨ blk A' ≠ blk A2') ∧ Below w.heap.size w w' := by
  have hl := hr.len
  have hfl : (framesL xs 0).length ≤ n := by rw [← hl]; exact framesL_len
  unfold grantOk
  rw [← Bool.and_assoc]
  cases h0 : (ownB xs && inB g 1 4)
  all_goals have H0 := Lib.hid h0
  all_goals clear h0
  · go_enter Try.func17, Try.ntmps17
    go_wp2_with fail
    refine (l2Guest_eq _ _ _ xs _ _ hr hn H0.out).mono ?_
    rintro e w1 ⟨rfl, rfl⟩
    go_wp2
    go_ret3
    exact ⟨_, 0, _, 0, rfl, own_new0a _ _ _ rfl, own_new0b _ _ _ rfl, .inr (by simp [blk]), below_next (below_alloc _ _) (below_alloc _ _)⟩
  · cases h1 : inB k 0 ((framesL xs 0).length : Int)
    all_goals have H1 := Lib.hid h1
    all_goals clear h1
    · go_enter Try.func17, Try.ntmps17
      go_wp2_with fail
      refine (l2Guest_eq _ _ _ xs _ _ hr hn H0.out).mono ?_
      rintro e w1 ⟨rfl, rfl⟩
      go_wp2_with fail
      refine (l2Of_any _ _ _ xs _ _ hr hn).mono ?_
      rintro e w1 ⟨A9, c9, rfl, ho1, hb1⟩
      go_wp2_with fail
      refine (l1In_eq H1.out _).mono ?_
      rintro e w9 ⟨rfl, rfl⟩
      go_wp2
      go_ret3
      exact ⟨_, 0, _, 0, rfl, own_less (own_new0a _ _ _ rfl) hb1.size, own_less (own_new0b _ _ _ rfl) hb1.size, .inr (by simp [blk]), below_next hb1 (below_next (below_alloc _ _) (below_alloc _ _))⟩
    · go_enter Try.func17, Try.ntmps17
      go_wp2_with fail
      refine (l2Guest_eq _ _ _ xs _ _ hr hn H0.out).mono ?_
      rintro e w1 ⟨rfl, rfl⟩
      go_wp2_with fail
      refine (l2Of_any _ _ _ xs _ _ hr hn).mono ?_
      rintro e w1 ⟨A9, c9, rfl, ho1, hb1⟩
      go_wp2_with fail
      refine (l1In_eq H1.out _).mono ?_
      rintro e w9 ⟨rfl, rfl⟩
      obtain ⟨hk0, hk1⟩ := inB_iff.1 H1.out
      obtain ⟨j, rfl⟩ := Int.eq_ofNat_of_zero_le hk0
      have hj0 : (0 : Int) ≤ (j : Int) := by omega
      go_wp2_with fail
      refine (l2Of_any _ _ _ xs _ _ (hr.keep hb1) hn).mono ?_
      rintro e w2 ⟨A2, c2, rfl, ho2, hb2⟩
      have hcap2 := ti_cap ho2
      have hjf : (j : Int) ≤ (c2 : Int) := by omega
      have hFl := grantF_len xs (j : Int)
      have hFe : (grantF xs (j : Int)).length = j := by unfold grantF; rw [List.length_take, Int.toNat_natCast]; omega
      have HE := Lib.hid hFe
      clear hFe
      have hb12 := below_next hb1 hb2
      have S1 := (Sep.start w).new hb12 (own_less ho2 hb1.size)
      go_wp2_with fail
      refine (l1Own_any _ _ _ xs _ (hr.keep hb12) hn).mono ?_
      rintro e w3 ⟨A1, c1, rfl, ho3, hb3⟩
      have S2' := S1.new hb3 ho3
      have S2 := S2'.swap
      clear S1 S2' ho3 ho2 hb3 hb12
      have HF := Lib.hid (grantF_lt (xs := xs) (k := (j : Int)))
      rw [hl] at HF
      go_wp2
      go_loopw [11] (fun i wr => ∃ k : Nat, k ≤ j ∧ i = .int .i64 k ∧ Sep w wr [ti A1 n c1 (setL xs ((grantF xs (j : Int)).take k) g), ti A2 (framesL xs 0).length c2 (framesL xs 0)]) (fun i _ => j - (intOf i).toNat)
      case atStart => exact ⟨0, Nat.zero_le _, rfl, by simpa [setL] using S2⟩
      case round =>
        obtain ⟨k, hk, rfl, hS⟩ := hrel
        by_cases hlt : k < j
        · have hrf : Rd wr 1 A2 j (I (grantF xs (j : Int))) := (by have := (hS.rd 1 rfl : Rd wr 1 A2 (framesL xs 0).length (I (framesL xs 0))).take_ (k := j) (show j ≤ (framesL xs 0).length by omega); unfold grantF; rw [Int.toNat_natCast]; exact this)
          obtain ⟨b, o, f, rfl, hbl, hfk, hc⟩ := hrf.at_ hlt
          obtain ⟨hf0, hf1⟩ := HF.out f (List.mem_of_getElem? hfk.out)
          obtain ⟨gg, rfl⟩ := own_some (hS.own 0 _ rfl) (by omega)
          obtain ⟨q, rfl⟩ := Int.eq_ofNat_of_zero_le hf0
          have hjn : q < n := by omega
          have hO : Own wr w.heap.size (ti (some ⟨gg, 0, none⟩) n c1 (setL xs ((grantF xs (j : Int)).take k) g)) := hS.own 0 _ rfl
          obtain ⟨⟨y, hy⟩, hfr, hs, hgr⟩ := own_store hO hjn g
          have hU := Lib.hid (setL_snoc xs ((grantF xs (j : Int)).take k) (q : Int) g)
          have HS := Lib.hid (hS.write 0 rfl hgr _ hs)
          clear hs hgr hO hrf hS
          go_wp2
          go_roundw
          case rel =>
            refine ⟨k + 1, by omega, by go_num, ?_⟩
            have := HS.out
            rw [take_snoc hfk.out, hU.out, Int.toNat_natCast]
            exact this
          case measure => simp [intOf]; omega
        · have hkk : k = j := by omega
          have HS := Lib.hid hS
          clear hS
          have hrd : Rd wr 1 A2 j (I (grantF xs (j : Int))) := by
            have := (HS.out.rd 1 rfl : Rd wr 1 A2 (framesL xs 0).length (I (framesL xs 0))).take_ (k := j) (show j ≤ (framesL xs 0).length by omega)
            unfold grantF
            rw [Int.toNat_natCast]
            exact this
          go_wp2_with fail
          refine (l1Own_any _ j _ (grantF xs (j : Int)) _ hrd (by omega)).mono ?_
          rintro e w4 ⟨A4, c4, rfl, ho4, hb4⟩
          go_wp2
          go_ret3
          have e : (selL true (grantL xs g (j : Int))).length = n := by rw [selL, if_pos rfl, grantL_len, hl]
          have e2 : (selL true (grantF xs (j : Int))).length = j := by rw [selL, if_pos rfl]; exact HE.out
          have hfin : Own wr w.heap.size (ti A1 n c1 (setL xs ((grantF xs (j : Int)).take k) g)) := HS.out.own 0 _ rfl
          rw [List.take_of_length_le (by rw [HE.out]; omega)] at hfin
          refine ⟨A1, c1, A4, c4, ?_, ?_, ?_, ?_, below_next HS.out.bel hb4⟩
          · rw [Bool.true_and, e, e2]
            rfl
          · rw [Bool.true_and, e]
            exact Own.kept2 hfin hb4
          · rw [Bool.true_and, e2]
            exact own_less ho4 HS.out.bel.size
          · exact own_apart' hfin ho4
end Go.Proofs.Ytppnmpkefchknaa
