/- Contracts of FreeGuest and GrantFrames. Lengths at most 2^20. -/
import Derived.Test.YtppnmpkefchknaaFc
namespace Go.Proofs.Ytppnmpkefchknaa
open Go.RowKit
set_option linter.unusedVariables false
set_option linter.unusedSimpArgs false

def freeOk (xs : List Int) (g : Int) : Bool := ownB xs && inB g 1 4
def freeL (xs : List Int) (g : Int) : List Int := setL xs (framesL xs g) 0
theorem freeL_len (xs : List Int) (g : Int) : (freeL xs g).length = xs.length := setL_len _ _ _


set_option maxHeartbeats 2000000 in
theorem i_FreeGuest_any (A : Option Addr) (n c : Nat) (xs : List Int) (g : Int) (w : World) (hr : Rd w 1 A n (I xs)) (hn : n ≤ 1048576) :
    Calls Try.prog 44 #[.slice A n c, .int .i64 g] w fun e w' => ∃ A' c', e = .returned (.tuple #[.slice A' (selL (freeOk xs g) (freeL xs g)).length c', .int .i64 (selI (freeOk xs g) (framesL xs g).length), .bool (freeOk xs g)]) ∧ Own w' w.heap.size (ti A' (selL (freeOk xs g) (freeL xs g)).length c' (selL (freeOk xs g) (freeL xs g))) ∧ Below w.heap.size w w' := by
  have hl := hr.len
  have hfl : (framesL xs g).length ≤ n := by rw [← hl]; exact framesL_len
  have hlt := Lib.hid (framesL_lt (xs := xs) (g := g))
  unfold freeOk
  cases h0 : ownB xs
  all_goals have H0 := Lib.hid h0
  all_goals clear h0
  · go_enter Try.func44, Try.ntmps44
    go_wp2_with fail
    refine (i_AreOwners_eq _ _ _ xs _ hr (by omega) _ H0.out).mono ?_
    rintro e w1 ⟨rfl, rfl⟩
    go_wp2
    go_ret3
    exact ⟨none, 0, rfl, own_nil _ _, Below.refl _ _⟩
  · cases h1 : inB g 1 4
    all_goals have H1 := Lib.hid h1
    all_goals clear h1
    · go_enter Try.func44, Try.ntmps44
      go_wp2_with fail
      refine (i_AreOwners_eq _ _ _ xs _ hr (by omega) _ H0.out).mono ?_
      rintro e w1 ⟨rfl, rfl⟩
      go_wp2_with fail
      refine (isGuest_eq H1.out _).mono ?_
      rintro e w1 ⟨rfl, rfl⟩
      go_wp2
      go_ret3
      exact ⟨none, 0, rfl, own_nil _ _, Below.refl _ _⟩
    · go_enter Try.func44, Try.ntmps44
      go_wp2_with fail
      refine (i_AreOwners_eq _ _ _ xs _ hr (by omega) _ H0.out).mono ?_
      rintro e w1 ⟨rfl, rfl⟩
      go_wp2_with fail
      refine (isGuest_eq H1.out _).mono ?_
      rintro e w1 ⟨rfl, rfl⟩
      go_wp2_with fail
      refine (framesOf_any _ _ _ xs _ _ hr hn).mono ?_
      rintro e w1 ⟨A1, c1, rfl, ho1, hb1⟩
      go_wp2_with fail
      refine (given_any _ _ _ _ (framesL xs g).length _ xs (framesL xs g) _ _ (hr.keep hb1) ho1.rd hn (by omega) (by rw [← hl]; exact hlt.out)).mono ?_
      rintro e w2 ⟨A2, c2, rfl, ho2, hb2⟩
      go_wp2
      go_ret3
      have e : (selL true (freeL xs g)).length = n := by rw [selL, if_pos rfl, freeL_len, hl]
      refine ⟨A2, c2, ?_, ?_, below_next hb1 hb2⟩
      · rw [Bool.true_and, e]
        rfl
      · rw [Bool.true_and, e]
        exact own_less ho2 hb1.size

set_option maxHeartbeats 2000000 in
theorem s_FreeGuest_any (A : Option Addr) (n c : Nat) (xs : List Int) (g : Int) (w : World) (hr : Rd w 1 A n (I xs)) (hn : n ≤ 1048576) :
    Calls Try.prog 45 #[.slice A n c, .int .i64 g] w fun e w' => ∃ A' c', e = .returned (.tuple #[.slice A' (selL (freeOk xs g) (freeL xs g)).length c', .int .i64 (selI (freeOk xs g) (framesL xs g).length), .bool (freeOk xs g)]) ∧ Own w' w.heap.size (ti A' (selL (freeOk xs g) (freeL xs g)).length c' (selL (freeOk xs g) (freeL xs g))) ∧ Below w.heap.size w w' := by
  have hl := hr.len
  have hfl : (framesL xs g).length ≤ n := by rw [← hl]; exact framesL_len
  have HF := Lib.hid (framesL_lt (xs := xs) (g := g))
  rw [hl] at HF
  unfold freeOk
  cases h0 : (ownB xs && inB g 1 4)
  all_goals have H0 := Lib.hid h0
  all_goals clear h0
  · go_enter Try.func45, Try.ntmps45
    go_wp2_with fail
    refine (l2Guest_eq _ _ _ xs _ _ hr hn H0.out).mono ?_
    rintro e w1 ⟨rfl, rfl⟩
    go_wp2
    go_ret3
    exact ⟨_, 0, rfl, own_new0 _ _ rfl, below_alloc _ _⟩
  · go_enter Try.func45, Try.ntmps45
    go_wp2_with fail
    refine (l2Guest_eq _ _ _ xs _ _ hr hn H0.out).mono ?_
    rintro e w1 ⟨rfl, rfl⟩
    go_wp2_with fail
    refine (l1Own_any _ _ _ xs _ hr hn).mono ?_
    rintro e w1 ⟨A1, c1, rfl, ho1, hb1⟩
    have S1 := (Sep.start w).new hb1 ho1
    go_wp2_with fail
    refine (l2Of_any _ _ _ xs _ _ (hr.sep S1) hn).mono ?_
    rintro e w2 ⟨A2, c2, rfl, ho2, hb2⟩
    have S2 := S1.new hb2 ho2
    simp only [List.nil_append, List.cons_append] at S2
    clear S1 ho1 ho2 hb1 hb2
    go_wp2
    go_loopw [9] (fun i wr => ∃ k : Nat, k ≤ (framesL xs g).length ∧ i = .int .i64 k ∧ Sep w wr [ti A1 n c1 (setL xs ((framesL xs g).take k) 0), ti A2 (framesL xs g).length c2 (framesL xs g)]) (fun i _ => (framesL xs g).length - (intOf i).toNat)
    case atStart => exact ⟨0, Nat.zero_le _, rfl, by simpa [setL] using S2⟩
    case round =>
      obtain ⟨k, hk, rfl, hS⟩ := hrel
      by_cases hlt : k < (framesL xs g).length
      · have hrf : Rd wr 1 A2 (framesL xs g).length (I (framesL xs g)) := hS.rd 1 rfl
        obtain ⟨b, o, f, rfl, hbl, hfk, hc⟩ := hrf.at_ hlt
        obtain ⟨hf0, hf1⟩ := HF.out f (List.mem_of_getElem? hfk.out)
        obtain ⟨gg, rfl⟩ := own_some (hS.own 0 _ rfl) (by omega)
        obtain ⟨j, rfl⟩ := Int.eq_ofNat_of_zero_le hf0
        have hjn : j < n := by omega
        have hO : Own wr w.heap.size (ti (some ⟨gg, 0, none⟩) n c1 (setL xs ((framesL xs g).take k) 0)) := hS.own 0 _ rfl
        obtain ⟨⟨y, hy⟩, hfr, hs, hgr⟩ := own_store hO hjn 0
        have hU := Lib.hid (setL_snoc xs ((framesL xs g).take k) (j : Int) 0)
        have HS := Lib.hid (hS.write 0 rfl hgr _ hs)
        clear hs hgr hO hrf hS
        go_wp2
        go_roundw
        case rel =>
          refine ⟨k + 1, by omega, by go_num, ?_⟩
          have := HS.out
          rw [take_snoc hfk.out, hU.out, Int.toNat_natCast]
          exact this
        case measure => simp [intOf]; omega
      · have hkk : k = (framesL xs g).length := by omega
        have HS := Lib.hid hS
        clear hS
        go_wp2
        go_ret3
        have e : (selL true (freeL xs g)).length = n := by rw [selL, if_pos rfl, freeL_len, hl]
        have hfin := HS.out.own 0 _ rfl
        rw [List.take_of_length_le (by omega)] at hfin
        refine ⟨A1, c1, ?_, ?_, HS.out.bel⟩
        · rw [e]
          rfl
        · rw [e]
          exact hfin
end Go.Proofs.Ytppnmpkefchknaa
