/- Contracts of ParseInt in the program and in the reference; strconv.Atoi by its contracts. -/
import Derived.Test.YtlahpnihnpmgoaaDoorPb
import Derived.Test.YtlahpnihnpmgoaaDoorShelfA
import Derived.Lib.AtoiErrMem
namespace Go.Proofs.YtlahpnihnpmgoaaDoor
open Go.RowKit
set_option linter.unusedVariables false
set_option linter.unusedSimpArgs false

theorem l1Read_any (l : List UInt8) (w : World) (hn : l.length ≤ 4611686018427387904) :
    Calls Tryd.prog 27 #[.string ⟨l.toArray⟩] w fun e w' => e = .returned (.tuple #[.int .i64 (parN l), .bool (parB l)]) ∧ Below w.heap.size w w' := by
  cases l with
  | nil => exact l1Read_A [] (by simp) w rfl hn
  | cons c r =>
    cases r with
    | nil => exact l1Read_A [c] (by simp) w rfl hn
    | cons d r =>
      by_cases hc : c = 45
      · exact l1Read_C (c :: d :: r) (d :: r) (by rw [hc]) (by simp) w (by simp [negB, hc]) hn
      · exact l1Read_B (c :: d :: r) c rfl hc (by simp) w (by simp [negB, hc]) hn

/-- the error of a text that is no number, as the package keeps it -/
def Err (w : World) : Prop := ∃ tp p, w.var? Tryd.prog "strconv.ErrSyntax" = some #[.iface tp p]
theorem Err.keep {w w' : World} (h : Err w) (hb : Below w.heap.size w w') : Err w' := by
  obtain ⟨tp, p, h⟩ := h
  refine ⟨tp, p, ?_⟩
  unfold World.var? at h ⊢
  cases hg : Tryd.prog.globalNamed "strconv.ErrSyntax" with
  | none => rw [hg] at h; simp at h
  | some g =>
    rw [hg] at h
    simp only [Option.bind_some] at h ⊢
    have hlt : g < w.heap.size := by
      rcases Nat.lt_or_ge g w.heap.size with h1 | h1
      · exact h1
      · rw [Array.getElem?_eq_none h1] at h; simp at h
    rw [hb.block g hlt]
    exact h
theorem atoi_yes {l : List UInt8} {n : Int} (h : Lib.atoi l = some n) (hl : l.length ≤ 7) (w : World) :
    Calls Tryd.prog 45 #[.string ⟨l.toArray⟩] w fun e w' => e = .returned (.tuple #[.int .i64 n, .nilIface]) ∧ Below w.heap.size w w' :=
  (Tryd.strconv_Atoi ⟨l.toArray⟩ n (by show l.toArray.size ≤ 18; simp; omega) h w).mono fun e w' ⟨he, t, hw⟩ => ⟨he, hw ▸ Lib.bytesWorld_below _ _ _⟩
theorem atoi_no {l : List UInt8} (h : Lib.atoi l = none) (hl : l.length ≤ 7) (w : World) (hE : Err w) :
    Calls Tryd.prog 45 #[.string ⟨l.toArray⟩] w fun e w' => ∃ t p, e = .returned (.tuple #[.int .i64 0, .iface t p]) ∧ Below w.heap.size w w' := by
  obtain ⟨tp, p, hv⟩ := hE
  exact (Tryd.strconv_Atoi_err_var ⟨l.toArray⟩ (by show l.toArray.size ≤ 18; simp; omega) h tp p w hv).mono fun e w' ⟨N, he, _, _, hb⟩ => ⟨_, _, he, hb⟩

set_option maxHeartbeats 2000000 in
theorem i_ParseInt_any (l : List UInt8) (w : World) (hn : l.length ≤ 4611686018427387904) (ht : Tab w) (hE : Err w) :
    Calls Tryd.prog 32 #[.string ⟨l.toArray⟩] w fun e w' => e = .returned (.tuple #[.int .i64 (parN l), .bool (parB l)]) ∧ Below w.heap.size w w' := by
  have HT := Lib.hid ht
  have HE := Lib.hid hE
  clear ht hE
  by_cases h7 : 7 < l.length
  · have h1 : (7 : Int) < (l.length : Int) := by omega
    have e0 := Lib.hid (par_long h7)
    have e1 := Lib.hid (parN_false e0.out)
    clear h7
    go_enter Tryd.func32, Tryd.ntmps32
    go_wp2
    go_ret2
    rw [e0.out, e1.out]
    exact ⟨rfl, Below.refl _ _⟩
  have h1 : ¬ (7 : Int) < (l.length : Int) := by omega
  have H7 := Lib.hid (show l.length ≤ 7 by omega)
  clear h7
  cases ha : Lib.atoi l with
  | none =>
    have HA := Lib.hid ha
    have e0 := Lib.hid (par_none ha)
    have e1 := Lib.hid (parN_false e0.out)
    clear ha
    go_enter Tryd.func32, Tryd.ntmps32
    go_wp2_with fail
    refine (atoi_no HA.out H7.out _ HE.out).mono ?_
    rintro e w1 ⟨t, p, rfl, hb⟩
    go_wp2
    go_ret2
    rw [e0.out, e1.out]
    exact ⟨rfl, hb⟩
  | some n =>
    have HA := Lib.hid ha
    clear ha
    cases hi : inB n (-999999) 999999
    · have HI := Lib.hid hi
      have e0 := Lib.hid (par_not HA.out (.inl hi))
      have e1 := Lib.hid (parN_false e0.out)
      clear hi
      go_enter Tryd.func32, Tryd.ntmps32
      go_wp2_with fail
      refine (atoi_yes HA.out H7.out _).mono ?_
      rintro e w1 ⟨rfl, hb⟩
      go_wp2_with fail
      refine (inside_eq HI.out _).mono ?_
      rintro e w2 ⟨rfl, rfl⟩
      go_wp2
      go_ret2
      rw [e0.out, e1.out]
      exact ⟨rfl, hb⟩
    · have HI := Lib.hid hi
      have HBD := Lib.hid (inB_iff.1 hi)
      clear hi
      obtain ⟨y, hy⟩ : ∃ y, y = Lib.itoa n := ⟨_, rfl⟩
      have HY := Lib.hid hy
      have HIT := Lib.hid (show ∀ w, Tab w → Calls Tryd.prog 43 #[.int .i64 n] w fun e w' => e = .returned (.string ⟨y.toArray⟩) ∧ Below w.heap.size w w' from fun w h => by rw [hy]; exact itoa_any n w (by have := HBD.out; omega) (by have := HBD.out; omega) h)
      clear hy
      by_cases he : y = l
      · have hp := par_some HA.out HI.out (by rw [← HY.out]; exact he)
        have e0 := Lib.hid hp.1
        have e1 := Lib.hid hp.2
        have hq : (y == l) = true := by simp [he]
        clear he hp
        go_enter Tryd.func32, Tryd.ntmps32
        go_wp2_with fail
        refine (atoi_yes HA.out H7.out _).mono ?_
        rintro e w1 ⟨rfl, hb⟩
        go_wp2_with fail
        refine (inside_eq HI.out _).mono ?_
        rintro e w2 ⟨rfl, rfl⟩
        go_wp2_with fail
        refine (HIT.out _ (HT.out.keep hb)).mono ?_
        rintro e w2 ⟨rfl, hb2⟩
        go_wp2
        go_ret2
        rw [e0.out, e1.out]
        exact ⟨rfl, below_next hb hb2⟩
      · have e0 := Lib.hid (par_not HA.out (.inr (by rw [← HY.out]; exact he)))
        have e1 := Lib.hid (parN_false e0.out)
        have hq : (y == l) = false := by simp [he]
        clear he
        go_enter Tryd.func32, Tryd.ntmps32
        go_wp2_with fail
        refine (atoi_yes HA.out H7.out _).mono ?_
        rintro e w1 ⟨rfl, hb⟩
        go_wp2_with fail
        refine (inside_eq HI.out _).mono ?_
        rintro e w2 ⟨rfl, rfl⟩
        go_wp2_with fail
        refine (HIT.out _ (HT.out.keep hb)).mono ?_
        rintro e w2 ⟨rfl, hb2⟩
        go_wp2
        go_ret2
        rw [e0.out, e1.out]
        exact ⟨rfl, below_next hb hb2⟩
end Go.Proofs.YtlahpnihnpmgoaaDoor
