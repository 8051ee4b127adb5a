/- Contracts of pagesWhere, l4Mapped, MappedPages, PagesOn. Tables not too large. -/
import Derived.Test.YtaaocnfbbajphaaTj
namespace Go.Proofs.Ytaaocnfbbajphaa
open Go.RowKit
set_option linter.unusedVariables false
set_option linter.unusedSimpArgs false

def qAll (_ : Int) : Bool := true
def qIs (x f : Int) : Bool := f == x
/-- a frame that is not the guest's -/
def qOut (xs : List Int) (g f : Int) : Bool := decide ((xs.length : Int) ≤ f) || (xs[f.toNat]?.getD 0 != g)
/-- is this page one that is chosen -/
def pgB (q : Int → Bool) (D : List Int) (E : List (List REntry)) (p : Nat) : Bool := frO D E p != -1 && q (frO D E p)
/-- the pages below k that are chosen -/
def pagesL (q : Int → Bool) (D : List Int) (E : List (List REntry)) (k : Nat) : List Int := ((List.range k).filter (pgB q D E)).map fun p : Nat => (p : Int)
theorem pagesL_yes {q : Int → Bool} {D : List Int} {E : List (List REntry)} {k : Nat} (h : pgB q D E k = true) : pagesL q D E (k + 1) = pagesL q D E k ++ [(k : Int)] := by
  simp [pagesL, List.range_succ, List.filter_append, h]
theorem pagesL_no {q : Int → Bool} {D : List Int} {E : List (List REntry)} {k : Nat} (h : pgB q D E k = false) : pagesL q D E (k + 1) = pagesL q D E k := by
  simp [pagesL, List.range_succ, List.filter_append, h]
theorem pagesL_len (q : Int → Bool) (D : List Int) (E : List (List REntry)) (k : Nat) : (pagesL q D E k).length ≤ k := by
  unfold pagesL
  rw [List.length_map]
  exact Nat.le_trans (List.length_filter_le _ _) (by simp)

set_option maxHeartbeats 400000 in
theorem mapped1_any (f : Int) (w : World) (b : Bool) (hb : qAll f = b) : Calls Try.prog 61 #[.int .i64 f] w fun e w' => e = .returned (.bool b) ∧ Below w.heap.size w w' := by
  subst hb
  go_enter Try.func61, Try.ntmps61
  go_wp2
  go_ret
  exact ⟨rfl, Below.refl _ _⟩
set_option maxHeartbeats 400000 in
theorem pagesOn1_any (x f : Int) (g : Nat) (w : World) (hc : w.cell? ⟨g, 0, none⟩ = some (.int .i64 x)) (b : Bool) (hb : qIs x f = b) : Calls Try.prog 64 #[.int .i64 f, .pointer (some ⟨g, 0, none⟩)] w fun e w' => e = .returned (.bool b) ∧ Below w.heap.size w w' := by
  subst hb
  go_enter Try.func64, Try.ntmps64
  go_wp2
  go_ret
  exact ⟨rfl, Below.refl _ _⟩

set_option maxHeartbeats 1000000 in
theorem within1_any (A : Option Addr) (n c : Nat) (xs : List Int) (g f : Int) (ga gb : Nat) (w : World) (hr : Rd w 1 A n (I xs)) (hn : n ≤ 1048576) (hca : w.cell? ⟨ga, 0, none⟩ = some (.slice A n c)) (hcb : w.cell? ⟨gb, 0, none⟩ = some (.int .i64 g)) (hf : 0 ≤ f) (b : Bool) (hb : qOut xs g f = b) :
    Calls Try.prog 71 #[.int .i64 f, .pointer (some ⟨ga, 0, none⟩), .pointer (some ⟨gb, 0, none⟩)] w fun e w' => e = .returned (.bool b) ∧ Below w.heap.size w w' := by
  have hl := hr.len
  obtain ⟨j, rfl⟩ := Int.eq_ofNat_of_zero_le hf
  unfold qOut at hb
  rw [hl, Int.toNat_natCast] at hb
  have HB := Lib.hid hb
  clear hb hl
  by_cases hlt : j < n
  · obtain ⟨b', o, x, rfl, hbl, hxk, hc⟩ := hr.at_ hlt
    have HE : Hid (b = (x != g)) := by
      show b = _
      rw [← HB.out, hxk.out, decide_eq_false (by omega : ¬ (n : Int) ≤ (j : Int))]; rfl
    have h1 : decide ((n : Int) ≤ (j : Int)) = false := by simp; omega
    have h0 : (0 : Int) ≤ (j : Int) := by omega
    have h2 : (j : Int) < (n : Int) := by omega
    go_enter Try.func71, Try.ntmps71
    go_wp2
    go_quiet (fail)
    go_wp2
    go_ret
    exact ⟨ret_bool (by rw [HE.out]; simp <;> omega), below_drewN (Below.refl _ _) _⟩
  · have HE : Hid (b = true) := by
      show b = _
      rw [← HB.out, decide_eq_true (by omega : (n : Int) ≤ (j : Int))]; rfl
    have h1 : decide ((n : Int) ≤ (j : Int)) = true := by simp; omega
    go_enter Try.func71, Try.ntmps71
    go_wp2
    go_quiet (fail)
    go_wp2
    go_ret
    exact ⟨ret_bool HE.out.symm, below_drewN (Below.refl _ _) _⟩


set_option maxRecDepth 100000 in
set_option maxHeartbeats 2000000 in
theorem pagesWhere_within (T : Tab) (w : World) (hr : RdT w T) (hg : Good T.D T.E) (A0 : Option Addr) (n0 c0 : Nat) (xs : List Int) (g : Int) (ga gb : Nat) (hro : Rd w 1 A0 n0 (I xs)) (hn0 : n0 ≤ 1048576) (hga : ga < w.heap.size) (hgb : gb < w.heap.size) (hca : w.cell? ⟨ga, 0, none⟩ = some (.slice A0 n0 c0)) (hcb : w.cell? ⟨gb, 0, none⟩ = some (.int .i64 g)) :
    Calls Try.prog 60 #[tabV T, .func (.func 71) #[] #[.pointer (some ⟨ga, 0, none⟩), .pointer (some ⟨gb, 0, none⟩)]] w fun e w' => ∃ A c, e = .returned (.slice A (pagesL (qOut xs g) T.D T.E 16).length c) ∧ Own w' w.heap.size (ti A (pagesL (qOut xs g) T.D T.E 16).length c (pagesL (qOut xs g) T.D T.E 16)) ∧ Below w.heap.size w w' := by
  obtain ⟨i0, hi, hz0, hz1, hz2⟩ := info_parts Try.info3
  have HI := Lib.hid hi
  have HZ0 := Lib.hid hz0
  have HZ1 := Lib.hid hz1
  have HZ2 := Lib.hid hz2
  have HG := Lib.hid hg
  have B0 := Box.new w 27 #[.slice T.Ad T.D.length T.cd, .slice T.Al T.L.length T.cl]
  have HB0 := Lib.hid B0
  have hO0 := own_new0 (w.alloc (.cells #[.slice T.Ad T.D.length T.cd, .slice T.Al T.L.length T.cl] 27)) #[] rfl
  rw [size_alloc] at hO0
  have HO0 := Lib.hid hO0
  clear hi hz0 hz1 hz2 hg B0 hO0
  go_enter Try.func60, Try.ntmps60
  go_wp2
  go_loopw [5, 6, 7, 9] (fun u x1 y1 i wr => ∃ (k n c : Nat) (A : Option Addr), k ≤ 16 ∧ i = .int .i64 k ∧ u = .slice A n c ∧ n ≤ 16 ∧ Hid (n = (pagesL (qOut xs g) T.D T.E k).length) ∧ Hid (Own wr (w.heap.size + 1) (ti A n c (pagesL (qOut xs g) T.D T.E k))) ∧ Hid (Below w.heap.size w wr) ∧ Hid (Box wr w.heap.size 27 #[.slice T.Ad T.D.length T.cd, .slice T.Al T.L.length T.cl]) ∧ w.heap.size < wr.heap.size) (fun _ _ _ i _ => 16 - (intOf i).toNat)
  case atStart => exact ⟨0, 0, 0, _, Nat.zero_le _, rfl, rfl, by omega, by rfl, HO0.out, (below_alloc _ _).alloc (by simp) _, HB0.out.alloc _, by simp; omega⟩
  case round =>
    obtain ⟨k, n, c, A, hk, rfl, rfl, hn16, hnu, HO, HB, HBB, hsz⟩ := hrel
    have C1 := HBB.out.cell
    by_cases hlt : k < 16
    · obtain ⟨f, hf⟩ : ∃ f, frO T.D T.E k = f := ⟨_, rfl⟩
      have HF := Lib.hid hf
      clear hf
      by_cases hn : f = -1
      · have hno : Hid (pgB (qOut xs g) T.D T.E k = false) := by show (frO T.D T.E k != -1 && (qOut xs g) (frO T.D T.E k)) = false; rw [HF.out, hn]; rfl
        subst hn
        go_wp2_with fail
        refine (frameOf_eq T k _ (hr.keep HB.out) HG.out hlt _ HF.out).mono ?_
        rintro e w1 ⟨rfl, hb⟩
        have HB1 := Lib.hid (below_next HB.out hb)
        have HBB1 := Lib.hid (HBB.out.keep hb)
        have HO1 := Lib.hid (HO.out.mono hb)
        have hsz1 : w.heap.size < w1.heap.size := Nat.lt_of_lt_of_le hsz hb.size
        clear hb
        go_wp2
        go_roundw
        case rel => exact ⟨k + 1, n, c, A, by omega, by go_num, rfl, hn16, by rw [pagesL_no hno.out]; exact hnu.out, by rw [pagesL_no hno.out]; exact HO1.out, HB1, HBB1, hsz1⟩
        case measure => simp [intOf]; omega
      · have hne : (f != -1) = true := by simp [hn]
        have HN0 := Lib.hid hn
        cases hq : qOut xs g f
        all_goals have HQ := Lib.hid hq
        · have hno : Hid (pgB (qOut xs g) T.D T.E k = false) := by show (frO T.D T.E k != -1 && (qOut xs g) (frO T.D T.E k)) = false; rw [HF.out, hq, Bool.and_false]
          clear hq hn
          go_wp2_with fail
          refine (frameOf_eq T k _ (hr.keep HB.out) HG.out hlt _ HF.out).mono ?_
          rintro e w1 ⟨rfl, hb⟩
          have HB1 := Lib.hid (below_next HB.out hb)
          have HBB1 := Lib.hid (HBB.out.keep hb)
          have HO1 := Lib.hid (HO.out.mono hb)
          have hsz1 : w.heap.size < w1.heap.size := Nat.lt_of_lt_of_le hsz hb.size
          clear hb
          go_wp2_with fail
          refine (within1_any A0 n0 c0 xs g f ga gb _ (hro.keep HB1.out) hn0 ((HB1.out.cell (p := ⟨ga, 0, none⟩) hga).trans hca) ((HB1.out.cell (p := ⟨gb, 0, none⟩) hgb).trans hcb) (by have := HG.out.frame hlt; rw [HF.out] at this; have := HN0.out; omega) _ HQ.out).mono ?_
          rintro e w2 ⟨rfl, hb⟩
          have HB2 := Lib.hid (below_next HB1.out hb)
          have HBB2 := Lib.hid (HBB1.out.keep hb)
          have HO2 := Lib.hid (HO1.out.mono hb)
          have hsz2 : w.heap.size < w2.heap.size := Nat.lt_of_lt_of_le hsz1 hb.size
          clear hb
          go_wp2
          go_roundw
          case rel => exact ⟨k + 1, n, c, A, by omega, by go_num, rfl, hn16, by rw [pagesL_no hno.out]; exact hnu.out, by rw [pagesL_no hno.out]; exact HO2.out, HB2, HBB2, hsz2⟩
          case measure => simp [intOf]; omega
        · have hyes : Hid (pgB (qOut xs g) T.D T.E k = true) := by show (frO T.D T.E k != -1 && (qOut xs g) (frO T.D T.E k)) = true; rw [HF.out, hq, hne]; rfl
          clear hq hn
          go_wp2_with fail
          refine (frameOf_eq T k _ (hr.keep HB.out) HG.out hlt _ HF.out).mono ?_
          rintro e w1 ⟨rfl, hb⟩
          have HB1 := Lib.hid (below_next HB.out hb)
          have HBB1 := Lib.hid (HBB.out.keep hb)
          have HO1 := Lib.hid (HO.out.mono hb)
          have hsz1 : w.heap.size < w1.heap.size := Nat.lt_of_lt_of_le hsz hb.size
          clear hb
          go_wp2_with fail
          refine (within1_any A0 n0 c0 xs g f ga gb _ (hro.keep HB1.out) hn0 ((HB1.out.cell (p := ⟨ga, 0, none⟩) hga).trans hca) ((HB1.out.cell (p := ⟨gb, 0, none⟩) hgb).trans hcb) (by have := HG.out.frame hlt; rw [HF.out] at this; have := HN0.out; omega) _ HQ.out).mono ?_
          rintro e w2 ⟨rfl, hb⟩
          have HB2' := Lib.hid (below_next HB1.out hb)
          have HBB2' := Lib.hid (HBB1.out.keep hb)
          have HO2' := Lib.hid (HO1.out.mono hb)
          have hsz2 : w.heap.size < w2.heap.size := Nat.lt_of_lt_of_le hsz1 hb.size
          clear hb HB1 HBB1 HO1 hsz1
          have HB1 := HB2'
          have HBB1 := HBB2'
          have HO1 := HO2'
          have hsz1 := hsz2
          go_wp2_with (at_builtin; refine wpList_app _ rfl _ _ 24 rfl (w.heap.size + 1) 3 i0 (.int .i64 0) 1 8 Try.underlying24 HI.out HZ0.out HZ1.out HZ2.out rfl (by decide) _ _ _ _ rfl (World.ownsRow.alloc HO1.out _) _ _ _ _ rfl (Rd.one _ _ _) (by simp [Value.oneCell']) (by unfold maxLen; omega) (by omega) (by simp; omega) ?_; intro A' c' w3 hown hgrow hat)
          have HUS : Hid (pagesL (qOut xs g) T.D T.E (k + 1) = pagesL (qOut xs g) T.D T.E k ++ [(k : Int)]) := pagesL_yes hyes.out
          have hown2 : Own w3 (w.heap.size + 1) (ti A' (n + 1) c' (pagesL (qOut xs g) T.D T.E (k + 1))) := by rw [HUS.out]; show w3.ownsRow _ _ _ _ _ (I _); rw [I_append]; exact hown
          have hbw : Below w.heap.size w w3 := by
            refine (HB1.out.alloc (Nat.le_of_lt hsz1) _).grown hgrow (by simp; omega) fun g hg => ?_
            have := (HO1.out.lt g (by rw [ownBlock_slice]; exact hg)).1
            omega
          have hbb : Box w3 w.heap.size 27 #[.slice T.Ad T.D.length T.cd, .slice T.Al T.L.length T.cl] := by
            refine (HBB1.out.alloc _).grown hgrow fun hg => ?_
            have := (HO1.out.lt _ (by rw [ownBlock_slice]; exact hg)).1
            omega
          have hsz3 : w.heap.size < w3.heap.size := by have := hgrow.size; simp at this; omega
          have HN1 : Hid (n + 1 ≤ 16) := by
            have := pagesL_len (qOut xs g) T.D T.E k
            have := hnu.out
            show _ ≤ _; omega
          have HO2 := Lib.hid hown2
          have HBW := Lib.hid hbw
          have HBB2 := Lib.hid hbb
          clear hown hgrow hat hown2 hbw hbb
          go_wp2
          go_roundw
          case rel => exact ⟨k + 1, n + 1, c', A', by omega, by go_num, rfl, HN1.out, by rw [HUS.out]; show _ = _; simp [hnu.out], HO2, HBW, HBB2, hsz3⟩
          case measure => simp [intOf]; omega
    · have HK : Hid (k = 16) := by show k = 16; omega
      go_wp2
      go_ret
      have h1 := HO.out
      have h2 := hnu.out
      rw [HK.out] at h1 h2
      rw [h2] at h1
      exact ⟨A, c, by show Ending.returned (.slice A n c) = _; rw [h2], own_less h1 (by omega), HB.out⟩


set_option maxRecDepth 100000 in
set_option maxHeartbeats 2000000 in
theorem pagesWhere_mapped (T : Tab) (w : World) (hr : RdT w T) (hg : Good T.D T.E) :
    Calls Try.prog 60 #[tabV T, .func (.func 61) #[] #[]] w fun e w' => ∃ A c, e = .returned (.slice A (pagesL (qAll) T.D T.E 16).length c) ∧ Own w' w.heap.size (ti A (pagesL (qAll) T.D T.E 16).length c (pagesL (qAll) T.D T.E 16)) ∧ Below w.heap.size w w' := by
  obtain ⟨i0, hi, hz0, hz1, hz2⟩ := info_parts Try.info3
  have HI := Lib.hid hi
  have HZ0 := Lib.hid hz0
  have HZ1 := Lib.hid hz1
  have HZ2 := Lib.hid hz2
  have HG := Lib.hid hg
  have B0 := Box.new w 27 #[.slice T.Ad T.D.length T.cd, .slice T.Al T.L.length T.cl]
  have HB0 := Lib.hid B0
  have hO0 := own_new0 (w.alloc (.cells #[.slice T.Ad T.D.length T.cd, .slice T.Al T.L.length T.cl] 27)) #[] rfl
  rw [size_alloc] at hO0
  have HO0 := Lib.hid hO0
  clear hi hz0 hz1 hz2 hg B0 hO0
  go_enter Try.func60, Try.ntmps60
  go_wp2
  go_loopw [5, 6, 7, 9] (fun u x1 y1 i wr => ∃ (k n c : Nat) (A : Option Addr), k ≤ 16 ∧ i = .int .i64 k ∧ u = .slice A n c ∧ n ≤ 16 ∧ Hid (n = (pagesL (qAll) T.D T.E k).length) ∧ Hid (Own wr (w.heap.size + 1) (ti A n c (pagesL (qAll) T.D T.E k))) ∧ Hid (Below w.heap.size w wr) ∧ Hid (Box wr w.heap.size 27 #[.slice T.Ad T.D.length T.cd, .slice T.Al T.L.length T.cl]) ∧ w.heap.size < wr.heap.size) (fun _ _ _ i _ => 16 - (intOf i).toNat)
  case atStart => exact ⟨0, 0, 0, _, Nat.zero_le _, rfl, rfl, by omega, by rfl, HO0.out, (below_alloc _ _).alloc (by simp) _, HB0.out.alloc _, by simp; omega⟩
  case round =>
    obtain ⟨k, n, c, A, hk, rfl, rfl, hn16, hnu, HO, HB, HBB, hsz⟩ := hrel
    have C1 := HBB.out.cell
    by_cases hlt : k < 16
    · obtain ⟨f, hf⟩ : ∃ f, frO T.D T.E k = f := ⟨_, rfl⟩
      have HF := Lib.hid hf
      clear hf
      by_cases hn : f = -1
      · have hno : Hid (pgB (qAll) T.D T.E k = false) := by show (frO T.D T.E k != -1 && (qAll) (frO T.D T.E k)) = false; rw [HF.out, hn]; rfl
        subst hn
        go_wp2_with fail
        refine (frameOf_eq T k _ (hr.keep HB.out) HG.out hlt _ HF.out).mono ?_
        rintro e w1 ⟨rfl, hb⟩
        have HB1 := Lib.hid (below_next HB.out hb)
        have HBB1 := Lib.hid (HBB.out.keep hb)
        have HO1 := Lib.hid (HO.out.mono hb)
        have hsz1 : w.heap.size < w1.heap.size := Nat.lt_of_lt_of_le hsz hb.size
        clear hb
        go_wp2
        go_roundw
        case rel => exact ⟨k + 1, n, c, A, by omega, by go_num, rfl, hn16, by rw [pagesL_no hno.out]; exact hnu.out, by rw [pagesL_no hno.out]; exact HO1.out, HB1, HBB1, hsz1⟩
        case measure => simp [intOf]; omega
      · have hne : (f != -1) = true := by simp [hn]
        have HN0 := Lib.hid hn
        cases hq : qAll f
        all_goals have HQ := Lib.hid hq
        · exact absurd hq (by simp [qAll])
        · have hyes : Hid (pgB (qAll) T.D T.E k = true) := by show (frO T.D T.E k != -1 && (qAll) (frO T.D T.E k)) = true; rw [HF.out, hq, hne]; rfl
          clear hq hn
          go_wp2_with fail
          refine (frameOf_eq T k _ (hr.keep HB.out) HG.out hlt _ HF.out).mono ?_
          rintro e w1 ⟨rfl, hb⟩
          have HB1 := Lib.hid (below_next HB.out hb)
          have HBB1 := Lib.hid (HBB.out.keep hb)
          have HO1 := Lib.hid (HO.out.mono hb)
          have hsz1 : w.heap.size < w1.heap.size := Nat.lt_of_lt_of_le hsz hb.size
          clear hb
          go_wp2_with fail
          refine (mapped1_any f _ _ HQ.out).mono ?_
          rintro e w2 ⟨rfl, hb⟩
          have HB2' := Lib.hid (below_next HB1.out hb)
          have HBB2' := Lib.hid (HBB1.out.keep hb)
          have HO2' := Lib.hid (HO1.out.mono hb)
          have hsz2 : w.heap.size < w2.heap.size := Nat.lt_of_lt_of_le hsz1 hb.size
          clear hb HB1 HBB1 HO1 hsz1
          have HB1 := HB2'
          have HBB1 := HBB2'
          have HO1 := HO2'
          have hsz1 := hsz2
          go_wp2_with (at_builtin; refine wpList_app _ rfl _ _ 24 rfl (w.heap.size + 1) 3 i0 (.int .i64 0) 1 8 Try.underlying24 HI.out HZ0.out HZ1.out HZ2.out rfl (by decide) _ _ _ _ rfl (World.ownsRow.alloc HO1.out _) _ _ _ _ rfl (Rd.one _ _ _) (by simp [Value.oneCell']) (by unfold maxLen; omega) (by omega) (by simp; omega) ?_; intro A' c' w3 hown hgrow hat)
          have HUS : Hid (pagesL (qAll) T.D T.E (k + 1) = pagesL (qAll) T.D T.E k ++ [(k : Int)]) := pagesL_yes hyes.out
          have hown2 : Own w3 (w.heap.size + 1) (ti A' (n + 1) c' (pagesL (qAll) T.D T.E (k + 1))) := by rw [HUS.out]; show w3.ownsRow _ _ _ _ _ (I _); rw [I_append]; exact hown
          have hbw : Below w.heap.size w w3 := by
            refine (HB1.out.alloc (Nat.le_of_lt hsz1) _).grown hgrow (by simp; omega) fun g hg => ?_
            have := (HO1.out.lt g (by rw [ownBlock_slice]; exact hg)).1
            omega
          have hbb : Box w3 w.heap.size 27 #[.slice T.Ad T.D.length T.cd, .slice T.Al T.L.length T.cl] := by
            refine (HBB1.out.alloc _).grown hgrow fun hg => ?_
            have := (HO1.out.lt _ (by rw [ownBlock_slice]; exact hg)).1
            omega
          have hsz3 : w.heap.size < w3.heap.size := by have := hgrow.size; simp at this; omega
          have HN1 : Hid (n + 1 ≤ 16) := by
            have := pagesL_len (qAll) T.D T.E k
            have := hnu.out
            show _ ≤ _; omega
          have HO2 := Lib.hid hown2
          have HBW := Lib.hid hbw
          have HBB2 := Lib.hid hbb
          clear hown hgrow hat hown2 hbw hbb
          go_wp2
          go_roundw
          case rel => exact ⟨k + 1, n + 1, c', A', by omega, by go_num, rfl, HN1.out, by rw [HUS.out]; show _ = _; simp [hnu.out], HO2, HBW, HBB2, hsz3⟩
          case measure => simp [intOf]; omega
    · have HK : Hid (k = 16) := by show k = 16; omega
      go_wp2
      go_ret
      have h1 := HO.out
      have h2 := hnu.out
      rw [HK.out] at h1 h2
      rw [h2] at h1
      exact ⟨A, c, by show Ending.returned (.slice A n c) = _; rw [h2], own_less h1 (by omega), HB.out⟩


set_option maxRecDepth 100000 in
set_option maxHeartbeats 2000000 in
theorem pagesWhere_on (T : Tab) (w : World) (hr : RdT w T) (hg : Good T.D T.E) (x : Int) (g : Nat) (hgw : g < w.heap.size) (hgc : w.cell? ⟨g, 0, none⟩ = some (.int .i64 x)) :
    Calls Try.prog 60 #[tabV T, .func (.func 64) #[] #[.pointer (some ⟨g, 0, none⟩)]] w fun e w' => ∃ A c, e = .returned (.slice A (pagesL (qIs x) T.D T.E 16).length c) ∧ Own w' w.heap.size (ti A (pagesL (qIs x) T.D T.E 16).length c (pagesL (qIs x) T.D T.E 16)) ∧ Below w.heap.size w w' := by
  obtain ⟨i0, hi, hz0, hz1, hz2⟩ := info_parts Try.info3
  have HI := Lib.hid hi
  have HZ0 := Lib.hid hz0
  have HZ1 := Lib.hid hz1
  have HZ2 := Lib.hid hz2
  have HG := Lib.hid hg
  have B0 := Box.new w 27 #[.slice T.Ad T.D.length T.cd, .slice T.Al T.L.length T.cl]
  have HB0 := Lib.hid B0
  have hO0 := own_new0 (w.alloc (.cells #[.slice T.Ad T.D.length T.cd, .slice T.Al T.L.length T.cl] 27)) #[] rfl
  rw [size_alloc] at hO0
  have HO0 := Lib.hid hO0
  clear hi hz0 hz1 hz2 hg B0 hO0
  go_enter Try.func60, Try.ntmps60
  go_wp2
  go_loopw [5, 6, 7, 9] (fun u x1 y1 i wr => ∃ (k n c : Nat) (A : Option Addr), k ≤ 16 ∧ i = .int .i64 k ∧ u = .slice A n c ∧ n ≤ 16 ∧ Hid (n = (pagesL (qIs x) T.D T.E k).length) ∧ Hid (Own wr (w.heap.size + 1) (ti A n c (pagesL (qIs x) T.D T.E k))) ∧ Hid (Below w.heap.size w wr) ∧ Hid (Box wr w.heap.size 27 #[.slice T.Ad T.D.length T.cd, .slice T.Al T.L.length T.cl]) ∧ w.heap.size < wr.heap.size) (fun _ _ _ i _ => 16 - (intOf i).toNat)
  case atStart => exact ⟨0, 0, 0, _, Nat.zero_le _, rfl, rfl, by omega, by rfl, HO0.out, (below_alloc _ _).alloc (by simp) _, HB0.out.alloc _, by simp; omega⟩
  case round =>
    obtain ⟨k, n, c, A, hk, rfl, rfl, hn16, hnu, HO, HB, HBB, hsz⟩ := hrel
    have C1 := HBB.out.cell
    by_cases hlt : k < 16
    · obtain ⟨f, hf⟩ : ∃ f, frO T.D T.E k = f := ⟨_, rfl⟩
      have HF := Lib.hid hf
      clear hf
      by_cases hn : f = -1
      · have hno : Hid (pgB (qIs x) T.D T.E k = false) := by show (frO T.D T.E k != -1 && (qIs x) (frO T.D T.E k)) = false; rw [HF.out, hn]; rfl
        subst hn
        go_wp2_with fail
        refine (frameOf_eq T k _ (hr.keep HB.out) HG.out hlt _ HF.out).mono ?_
        rintro e w1 ⟨rfl, hb⟩
        have HB1 := Lib.hid (below_next HB.out hb)
        have HBB1 := Lib.hid (HBB.out.keep hb)
        have HO1 := Lib.hid (HO.out.mono hb)
        have hsz1 : w.heap.size < w1.heap.size := Nat.lt_of_lt_of_le hsz hb.size
        clear hb
        go_wp2
        go_roundw
        case rel => exact ⟨k + 1, n, c, A, by omega, by go_num, rfl, hn16, by rw [pagesL_no hno.out]; exact hnu.out, by rw [pagesL_no hno.out]; exact HO1.out, HB1, HBB1, hsz1⟩
        case measure => simp [intOf]; omega
      · have hne : (f != -1) = true := by simp [hn]
        have HN0 := Lib.hid hn
        cases hq : qIs x f
        all_goals have HQ := Lib.hid hq
        · have hno : Hid (pgB (qIs x) T.D T.E k = false) := by show (frO T.D T.E k != -1 && (qIs x) (frO T.D T.E k)) = false; rw [HF.out, hq, Bool.and_false]
          clear hq hn
          go_wp2_with fail
          refine (frameOf_eq T k _ (hr.keep HB.out) HG.out hlt _ HF.out).mono ?_
          rintro e w1 ⟨rfl, hb⟩
          have HB1 := Lib.hid (below_next HB.out hb)
          have HBB1 := Lib.hid (HBB.out.keep hb)
          have HO1 := Lib.hid (HO.out.mono hb)
          have hsz1 : w.heap.size < w1.heap.size := Nat.lt_of_lt_of_le hsz hb.size
          clear hb
          go_wp2_with fail
          refine (pagesOn1_any x f g _ ((HB1.out.cell (p := ⟨g, 0, none⟩) hgw).trans hgc) _ HQ.out).mono ?_
          rintro e w2 ⟨rfl, hb⟩
          have HB2 := Lib.hid (below_next HB1.out hb)
          have HBB2 := Lib.hid (HBB1.out.keep hb)
          have HO2 := Lib.hid (HO1.out.mono hb)
          have hsz2 : w.heap.size < w2.heap.size := Nat.lt_of_lt_of_le hsz1 hb.size
          clear hb
          go_wp2
          go_roundw
          case rel => exact ⟨k + 1, n, c, A, by omega, by go_num, rfl, hn16, by rw [pagesL_no hno.out]; exact hnu.out, by rw [pagesL_no hno.out]; exact HO2.out, HB2, HBB2, hsz2⟩
          case measure => simp [intOf]; omega
        · have hyes : Hid (pgB (qIs x) T.D T.E k = true) := by show (frO T.D T.E k != -1 && (qIs x) (frO T.D T.E k)) = true; rw [HF.out, hq, hne]; rfl
          clear hq hn
          go_wp2_with fail
          refine (frameOf_eq T k _ (hr.keep HB.out) HG.out hlt _ HF.out).mono ?_
          rintro e w1 ⟨rfl, hb⟩
          have HB1 := Lib.hid (below_next HB.out hb)
          have HBB1 := Lib.hid (HBB.out.keep hb)
          have HO1 := Lib.hid (HO.out.mono hb)
          have hsz1 : w.heap.size < w1.heap.size := Nat.lt_of_lt_of_le hsz hb.size
          clear hb
          go_wp2_with fail
          refine (pagesOn1_any x f g _ ((HB1.out.cell (p := ⟨g, 0, none⟩) hgw).trans hgc) _ HQ.out).mono ?_
          rintro e w2 ⟨rfl, hb⟩
          have HB2' := Lib.hid (below_next HB1.out hb)
          have HBB2' := Lib.hid (HBB1.out.keep hb)
          have HO2' := Lib.hid (HO1.out.mono hb)
          have hsz2 : w.heap.size < w2.heap.size := Nat.lt_of_lt_of_le hsz1 hb.size
          clear hb HB1 HBB1 HO1 hsz1
          have HB1 := HB2'
          have HBB1 := HBB2'
          have HO1 := HO2'
          have hsz1 := hsz2
          go_wp2_with (at_builtin; refine wpList_app _ rfl _ _ 24 rfl (w.heap.size + 1) 3 i0 (.int .i64 0) 1 8 Try.underlying24 HI.out HZ0.out HZ1.out HZ2.out rfl (by decide) _ _ _ _ rfl (World.ownsRow.alloc HO1.out _) _ _ _ _ rfl (Rd.one _ _ _) (by simp [Value.oneCell']) (by unfold maxLen; omega) (by omega) (by simp; omega) ?_; intro A' c' w3 hown hgrow hat)
          have HUS : Hid (pagesL (qIs x) T.D T.E (k + 1) = pagesL (qIs x) T.D T.E k ++ [(k : Int)]) := pagesL_yes hyes.out
          have hown2 : Own w3 (w.heap.size + 1) (ti A' (n + 1) c' (pagesL (qIs x) T.D T.E (k + 1))) := by rw [HUS.out]; show w3.ownsRow _ _ _ _ _ (I _); rw [I_append]; exact hown
          have hbw : Below w.heap.size w w3 := by
            refine (HB1.out.alloc (Nat.le_of_lt hsz1) _).grown hgrow (by simp; omega) fun g hg => ?_
            have := (HO1.out.lt g (by rw [ownBlock_slice]; exact hg)).1
            omega
          have hbb : Box w3 w.heap.size 27 #[.slice T.Ad T.D.length T.cd, .slice T.Al T.L.length T.cl] := by
            refine (HBB1.out.alloc _).grown hgrow fun hg => ?_
            have := (HO1.out.lt _ (by rw [ownBlock_slice]; exact hg)).1
            omega
          have hsz3 : w.heap.size < w3.heap.size := by have := hgrow.size; simp at this; omega
          have HN1 : Hid (n + 1 ≤ 16) := by
            have := pagesL_len (qIs x) T.D T.E k
            have := hnu.out
            show _ ≤ _; omega
          have HO2 := Lib.hid hown2
          have HBW := Lib.hid hbw
          have HBB2 := Lib.hid hbb
          clear hown hgrow hat hown2 hbw hbb
          go_wp2
          go_roundw
          case rel => exact ⟨k + 1, n + 1, c', A', by omega, by go_num, rfl, HN1.out, by rw [HUS.out]; show _ = _; simp [hnu.out], HO2, HBW, HBB2, hsz3⟩
          case measure => simp [intOf]; omega
    · have HK : Hid (k = 16) := by show k = 16; omega
      go_wp2
      go_ret
      have h1 := HO.out
      have h2 := hnu.out
      rw [HK.out] at h1 h2
      rw [h2] at h1
      exact ⟨A, c, by show Ending.returned (.slice A n c) = _; rw [h2], own_less h1 (by omega), HB.out⟩

end Go.Proofs.Ytaaocnfbbajphaa
