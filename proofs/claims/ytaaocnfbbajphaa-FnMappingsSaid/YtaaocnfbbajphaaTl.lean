/- Contracts of l4Mapped, MappedPages, PagesOn. Tables not too large. -/
import Derived.Test.YtaaocnfbbajphaaTk
namespace Go.Proofs.Ytaaocnfbbajphaa
open Go.RowKit
set_option linter.unusedVariables false
set_option linter.unusedSimpArgs false

theorem fieldE0 (f : Int) (fw : Bool) : ∀ w : World, (Instr.field 67 (.agg #[.int .i64 f, .bool fw]) 0).run Try.prog w = .ok (.int .i64 f) w := fun _ => by kernel_rfl
theorem l4Get_at (T : Tab) (p : Nat) (f : Int) (fw : Bool) (w : World) (hr : RdT w T) (hg : Good T.D T.E) (hp : p < 16) (he : getE T.D T.E p = ⟨f, fw⟩) :
    Calls Try.prog 42 #[tabV T, .int .i64 p] w fun x w' => x = .returned (.agg #[.int .i64 f, .bool fw]) ∧ Below w.heap.size w w' := l4Get_eq T p w hr hg hp _ he
set_option maxRecDepth 100000 in
set_option maxHeartbeats 2000000 in
theorem l4Mapped_any (T : Tab) (w : World) (hr : RdT w T) (hg : Good T.D T.E) :
    Calls Try.prog 62 #[tabV T] w fun e w' => ∃ A c, e = .returned (.slice A (pagesL qAll T.D T.E 16).length c) ∧ Own w' w.heap.size (ti A (pagesL qAll T.D T.E 16).length c (pagesL qAll T.D T.E 16)) ∧ Below w.heap.size w w' := by
  obtain ⟨i0, hi, hz0, hz1, hz2⟩ := info_parts Try.info3
  have HI := Lib.hid hi
  have HZ0 := Lib.hid hz0
  have HZ1 := Lib.hid hz1
  have HZ2 := Lib.hid hz2
  have B0 := Box.new w 27 #[.slice T.Ad T.D.length T.cd, .slice T.Al T.L.length T.cl]
  have HB0 := Lib.hid B0
  have hO0 := own_new0 (w.alloc (.cells #[.slice T.Ad T.D.length T.cd, .slice T.Al T.L.length T.cl] 27)) #[] rfl
  rw [size_alloc] at hO0
  have HO0 := Lib.hid hO0
  clear hi hz0 hz1 hz2 B0 hO0
  have HG := Lib.hid hg
  clear hg
  go_enter Try.func62, Try.ntmps62
  go_wp2
  go_loopw [3, 4] (fun u i wr => ∃ (k n c : Nat) (A : Option Addr), k ≤ 16 ∧ i = .int .i64 k ∧ u = .slice A n c ∧ n ≤ 16 ∧ Hid (n = (pagesL (qAll) T.D T.E k).length) ∧ Hid (Own wr (w.heap.size + 1) (ti A n c (pagesL (qAll) T.D T.E k))) ∧ Hid (Below w.heap.size w wr) ∧ Hid (Box wr w.heap.size 27 #[.slice T.Ad T.D.length T.cd, .slice T.Al T.L.length T.cl]) ∧ w.heap.size < wr.heap.size) (fun _ i _ => 16 - (intOf i).toNat)
  case atStart => exact ⟨0, 0, 0, _, Nat.zero_le _, rfl, rfl, by omega, by rfl, HO0.out, (below_alloc _ _).alloc (by simp) _, HB0.out.alloc _, by simp; omega⟩
  case round =>
    obtain ⟨k, n, c, A, hk, rfl, rfl, hn16, hnu, HO, HB, HBB, hsz⟩ := hrel
    have C1 := HBB.out.cell
    by_cases hlt : k < 16
    · obtain ⟨e0, he0⟩ : ∃ e0, getE T.D T.E k = e0 := ⟨_, rfl⟩
      have HE0 := Lib.hid he0
      have hf : frO T.D T.E k = e0.f0 := by unfold frO; rw [he0]
      have HF := Lib.hid hf
      clear he0 hf
      obtain ⟨f, fw⟩ := e0
      dsimp only at HF
      by_cases hn : f = -1
      · obtain rfl := hn
        have hno : Hid (pgB (qAll) T.D T.E k = false) := by show (frO T.D T.E k != -1 && qAll (frO T.D T.E k)) = false; rw [HF.out]; rfl
        have hfd := fun f => fieldE0 f fw
        go_wp2_with fail
        refine (l4Get_at T k _ fw _ (hr.keep HB.out) HG.out hlt HE0.out).mono ?_
        rintro e w1 ⟨rfl, hb⟩
        have HB1 := Lib.hid (below_next HB.out hb)
        have HBB1 := Lib.hid (HBB.out.keep hb)
        have HO1 := Lib.hid (HO.out.mono hb)
        have hsz1 : w.heap.size < w1.heap.size := Nat.lt_of_lt_of_le hsz hb.size
        clear hb
        go_wp2
        go_roundw
        case rel => exact ⟨k + 1, n, c, A, by omega, by go_num, rfl, hn16, by rw [pagesL_no hno.out]; exact hnu.out, by rw [pagesL_no hno.out]; exact HO1.out, HB1, HBB1, hsz1⟩
        case measure => simp [intOf]; omega
      · have hne : (f != -1) = true := by simp [hn]
        have HNE := Lib.hid hne
        clear hn
        have hyes : Hid (pgB (qAll) T.D T.E k = true) := by show (frO T.D T.E k != -1 && qAll (frO T.D T.E k)) = true; rw [HF.out]; rw [HNE.out]; rfl
        have hfd := fun f => fieldE0 f fw
        go_wp2_with fail
        refine (l4Get_at T k _ fw _ (hr.keep HB.out) HG.out hlt HE0.out).mono ?_
        rintro e w1 ⟨rfl, hb⟩
        have HB1 := Lib.hid (below_next HB.out hb)
        have HBB1 := Lib.hid (HBB.out.keep hb)
        have HO1 := Lib.hid (HO.out.mono hb)
        have hsz1 : w.heap.size < w1.heap.size := Nat.lt_of_lt_of_le hsz hb.size
        clear hb
        go_wp2_with (at_builtin; refine wpList_app _ rfl _ _ 24 rfl (w.heap.size + 1) 3 i0 (.int .i64 0) 1 8 Try.underlying24 HI.out HZ0.out HZ1.out HZ2.out rfl (by decide) _ _ _ _ rfl (World.ownsRow.alloc HO1.out _) _ _ _ _ rfl (Rd.one _ _ _) (by simp [Value.oneCell']) (by unfold maxLen; omega) (by omega) (by simp; omega) ?_; intro A' c' w3 hown hgrow hat)
        have HUS : Hid (pagesL (qAll) T.D T.E (k + 1) = pagesL (qAll) T.D T.E k ++ [(k : Int)]) := pagesL_yes hyes.out
        have hown2 : Own w3 (w.heap.size + 1) (ti A' (n + 1) c' (pagesL (qAll) T.D T.E (k + 1))) := by rw [HUS.out]; show w3.ownsRow _ _ _ _ _ (I _); rw [I_append]; exact hown
        have hbw : Below w.heap.size w w3 := by
          refine (HB1.out.alloc (Nat.le_of_lt hsz1) _).grown hgrow (by simp; omega) fun g hg => ?_
          have := (HO1.out.lt g (by rw [ownBlock_slice]; exact hg)).1
          omega
        have hbb : Box w3 w.heap.size 27 #[.slice T.Ad T.D.length T.cd, .slice T.Al T.L.length T.cl] := by
          refine (HBB1.out.alloc _).grown hgrow fun hg => ?_
          have := (HO1.out.lt _ (by rw [ownBlock_slice]; exact hg)).1
          omega
        have hsz3 : w.heap.size < w3.heap.size := by have := hgrow.size; simp at this; omega
        have HN1 : Hid (n + 1 ≤ 16) := by
          have := pagesL_len (qAll) T.D T.E k
          have := hnu.out
          show _ ≤ _; omega
        have HO2 := Lib.hid hown2
        have HBW := Lib.hid hbw
        have HBB2 := Lib.hid hbb
        clear hown hgrow hat hown2 hbw hbb
        go_wp2
        go_roundw
        case rel => exact ⟨k + 1, n + 1, c', A', by omega, by go_num, rfl, HN1.out, by rw [HUS.out]; show _ = _; simp [hnu.out], HO2, HBW, HBB2, hsz3⟩
        case measure => simp [intOf]; omega
    · have HK : Hid (k = 16) := by show k = 16; omega
      go_wp2
      go_ret
      have h1 := HO.out
      have h2 := hnu.out
      rw [HK.out] at h1 h2
      rw [h2] at h1
      exact ⟨A, c, by show Ending.returned (.slice A n c) = _; rw [h2], own_less h1 (by omega), HB.out⟩


/-- the mapped pages -/
noncomputable def mpL (D : List Int) (E : List (List REntry)) : List Int := if goodB D E then pagesL qAll D E 16 else []
set_option maxHeartbeats 1000000 in
theorem i_MappedPages_any (T : Tab) (w : World) (hr : RdT w T) (B : Bd T) (hcap : T.D.length ≤ T.cd ∧ T.cd ≤ maxLen) (D : List Int) (E : List (List REntry)) (hD : T.D = D) (hE : T.E = E) :
    Calls Try.prog 19 #[tabV T] w fun e w' => ∃ A c, e = .returned (.tuple #[.slice A (mpL D E).length c, .bool (goodB D E)]) ∧ Own w' w.heap.size (ti A (mpL D E).length c (mpL D E)) ∧ Below w.heap.size w w' := by
  subst hD hE
  unfold mpL
  cases h1 : goodB T.D T.E
  all_goals have H1 := Lib.hid h1
  all_goals clear h1
  · go_enter Try.func19, Try.ntmps19
    go_wp2_with fail
    refine (i_IsTable_eq T _ (hr.keep (below_alloc _ _)) B.d B.n B.l _ H1.out).mono ?_
    rintro e w1 ⟨rfl, hb⟩
    go_wp2
    go_ret2
    exact ⟨none, 0, rfl, own_nil _ _, below_next (below_alloc _ _) hb⟩
  · have HG := Lib.hid (goodB_iff.1 H1.out)
    have B0 := Box.new w 27 #[.slice T.Ad T.D.length T.cd, .slice T.Al T.L.length T.cl]
    have HB0 := Lib.hid B0
    clear B0
    simp only [if_true]
    go_enter Try.func19, Try.ntmps19
    go_wp2_with fail
    refine (i_IsTable_eq T _ (hr.keep (below_alloc _ _)) B.d B.n B.l _ H1.out).mono ?_
    rintro e w1 ⟨rfl, hb⟩
    have C0 := (HB0.out.keep hb).cell
    have HB := Lib.hid (below_next (below_alloc _ _) hb)
    clear hb
    go_wp2_with fail
    refine (pagesWhere_mapped T _ (hr.keep HB.out) HG.out).mono ?_
    rintro e w2 ⟨A, c, rfl, ho, hb⟩
    go_wp2
    go_ret2
    exact ⟨A, c, rfl, own_less ho HB.out.size, below_next HB.out hb⟩
set_option maxHeartbeats 1000000 in
theorem s_MappedPages_any (T : Tab) (w : World) (hr : RdT w T) (B : Bd T) (hcap : T.D.length ≤ T.cd ∧ T.cd ≤ maxLen) (D : List Int) (E : List (List REntry)) (hD : T.D = D) (hE : T.E = E) :
    Calls Try.prog 20 #[tabV T] w fun e w' => ∃ A c, e = .returned (.tuple #[.slice A (mpL D E).length c, .bool (goodB D E)]) ∧ Own w' w.heap.size (ti A (mpL D E).length c (mpL D E)) ∧ Below w.heap.size w w' := by
  subst hD hE
  have HC := Lib.hid hcap
  clear hcap
  unfold mpL
  cases h1 : goodB T.D T.E
  all_goals have H1 := Lib.hid h1
  all_goals clear h1
  · go_enter Try.func20, Try.ntmps20
    go_wp2_with fail
    refine (l4Good_eq T _ (hr.keep (below_alloc _ _)) B.d B.n B.l HC.out _ H1.out).mono ?_
    rintro e w1 ⟨rfl, hb⟩
    have HB := Lib.hid (below_next (below_alloc _ _) hb)
    clear hb
    go_wp2
    go_ret2
    exact ⟨_, _, rfl, own_less (own_new0 w1 #[] rfl) HB.out.size, below_next HB.out (below_alloc _ _)⟩
  · have HG := Lib.hid (goodB_iff.1 H1.out)
    have B0 := Box.new w 27 #[.slice T.Ad T.D.length T.cd, .slice T.Al T.L.length T.cl]
    have HB0 := Lib.hid B0
    clear B0
    simp only [if_true]
    go_enter Try.func20, Try.ntmps20
    go_wp2_with fail
    refine (l4Good_eq T _ (hr.keep (below_alloc _ _)) B.d B.n B.l HC.out _ H1.out).mono ?_
    rintro e w1 ⟨rfl, hb⟩
    have C0 := (HB0.out.keep hb).cell
    have HB := Lib.hid (below_next (below_alloc _ _) hb)
    clear hb
    go_wp2_with fail
    refine (l4Mapped_any T _ (hr.keep HB.out) HG.out).mono ?_
    rintro e w2 ⟨A, c, rfl, ho, hb⟩
    go_wp2
    go_ret2
    exact ⟨A, c, rfl, own_less ho HB.out.size, below_next HB.out hb⟩

/-- a frame, and a good table -/
noncomputable def onOk (D : List Int) (E : List (List REntry)) (x : Int) : Bool := goodB D E && inB x 0 15
noncomputable def onL (D : List Int) (E : List (List REntry)) (x : Int) : List Int := if onOk D E x then pagesL (qIs x) D E 16 else []
set_option maxHeartbeats 1000000 in
theorem i_PagesOn_any (T : Tab) (x : Int) (w : World) (hr : RdT w T) (B : Bd T) (hcap : T.D.length ≤ T.cd ∧ T.cd ≤ maxLen) (D : List Int) (E : List (List REntry)) (hD : T.D = D) (hE : T.E = E) :
    Calls Try.prog 22 #[tabV T, .int .i64 x] w fun e w' => ∃ A c, e = .returned (.tuple #[.slice A (onL D E x).length c, .bool (onOk D E x)]) ∧ Own w' w.heap.size (ti A (onL D E x).length c (onL D E x)) ∧ Below w.heap.size w w' := by
  subst hD hE
  unfold onL onOk
  have hb2 := (below_alloc w (.cells #[.slice T.Ad T.D.length T.cd, .slice T.Al T.L.length T.cl] 27)).alloc (by simp) (.cells #[.int .i64 x] 3)
  have B0 := (Box.new w 27 #[.slice T.Ad T.D.length T.cd, .slice T.Al T.L.length T.cl]).alloc (.cells #[.int .i64 x] 3)
  have B1 := Box.new1 w (.cells #[.slice T.Ad T.D.length T.cd, .slice T.Al T.L.length T.cl] 27) 3 #[.int .i64 x]
  have HB2 := Lib.hid hb2
  have HX0 := Lib.hid B0
  have HX1 := Lib.hid B1
  clear hb2 B0 B1
  cases h1 : goodB T.D T.E
  all_goals have H1 := Lib.hid h1
  all_goals clear h1
  · go_enter Try.func22, Try.ntmps22
    go_wp2_with fail
    refine (i_IsTable_eq T _ (hr.keep HB2.out) B.d B.n B.l _ H1.out).mono ?_
    rintro e w1 ⟨rfl, hb⟩
    go_wp2
    go_ret2
    exact ⟨none, 0, rfl, own_nil _ _, HB2.out.trans (hb.mono HB2.out.size)⟩
  · have HG := Lib.hid (goodB_iff.1 H1.out)
    cases h2 : inB x 0 15
    all_goals have H2 := Lib.hid h2
    all_goals clear h2
    all_goals
      go_enter Try.func22, Try.ntmps22
      go_wp2_with fail
      refine (i_IsTable_eq T _ (hr.keep HB2.out) B.d B.n B.l _ H1.out).mono ?_
      rintro e w1 ⟨rfl, hb⟩
      have C0 := (HX0.out.keep hb).cell
      have C1 := (HX1.out.keep hb).cell
      have Z1 := (HX1.out.keep hb).lt
      have HB := Lib.hid (HB2.out.trans (hb.mono HB2.out.size))
      clear hb
      go_wp2_with fail
      refine (isFrame_eq H2.out _).mono ?_
      rintro e w2 ⟨rfl, rfl⟩
    · go_wp2
      go_ret2
      exact ⟨none, 0, rfl, own_nil _ _, HB.out⟩
    · go_wp2_with fail
      refine (pagesWhere_on T _ (hr.keep HB.out) HG.out x _ Z1 (C1 0)).mono ?_
      rintro e w2 ⟨A, c, rfl, ho, hb⟩
      go_wp2
      go_ret2
      exact ⟨A, c, rfl, own_less ho HB.out.size, below_next HB.out hb⟩


set_option maxRecDepth 100000 in
set_option maxHeartbeats 2000000 in
theorem s_PagesOn_any (T : Tab) (x : Int) (w : World) (hr : RdT w T) (B : Bd T) (hcap : T.D.length ≤ T.cd ∧ T.cd ≤ maxLen) (D : List Int) (E : List (List REntry)) (hD : T.D = D) (hE : T.E = E) :
    Calls Try.prog 33 #[tabV T, .int .i64 x] w fun e w' => ∃ A c, e = .returned (.tuple #[.slice A (onL D E x).length c, .bool (onOk D E x)]) ∧ Own w' w.heap.size (ti A (onL D E x).length c (onL D E x)) ∧ Below w.heap.size w w' := by
  subst hD hE
  obtain ⟨i0, hi, hz0, hz1, hz2⟩ := info_parts Try.info3
  have HI := Lib.hid hi
  have HZ0 := Lib.hid hz0
  have HZ1 := Lib.hid hz1
  have HZ2 := Lib.hid hz2
  have B0 := Box.new w 27 #[.slice T.Ad T.D.length T.cd, .slice T.Al T.L.length T.cl]
  have HB0 := Lib.hid B0
  have hO0 := own_new0 (w.alloc (.cells #[.slice T.Ad T.D.length T.cd, .slice T.Al T.L.length T.cl] 27)) #[] rfl
  rw [size_alloc] at hO0
  have HO0 := Lib.hid hO0
  clear hi hz0 hz1 hz2 B0 hO0
  have hbw0 := (below_alloc w (.cells #[.slice T.Ad T.D.length T.cd, .slice T.Al T.L.length T.cl] 27)).alloc (by simp) (.cells #[] 3)
  have HBW0 := Lib.hid hbw0
  have HX0 := Lib.hid (HB0.out.alloc (.cells #[] 3))
  have HC := Lib.hid hcap
  clear hcap hbw0
  unfold onL onOk
  cases h1 : goodB T.D T.E
  all_goals have H1 := Lib.hid h1
  all_goals clear h1
  · go_enter Try.func33, Try.ntmps33
    go_wp2_with fail
    refine (l4Good_eq T _ (hr.keep HBW0.out) B.d B.n B.l HC.out _ H1.out).mono ?_
    rintro e w1 ⟨rfl, hb⟩
    go_wp2
    go_ret2
    exact ⟨_, _, rfl, own_less (HO0.out.mono hb) (by omega), HBW0.out.trans (hb.mono HBW0.out.size)⟩
  have HG := Lib.hid (goodB_iff.1 H1.out)
  cases h2 : inB x 0 15
  all_goals have H2 := Lib.hid h2
  all_goals clear h2
  all_goals
    go_enter Try.func33, Try.ntmps33
    go_wp2_with fail
    refine (l4Good_eq T _ (hr.keep HBW0.out) B.d B.n B.l HC.out _ H1.out).mono ?_
    rintro e w1 ⟨rfl, hb⟩
    have C0 := (HX0.out.keep hb).cell
    have HX1 := Lib.hid (HX0.out.keep hb)
    have Z1 := (HX0.out.keep hb).lt
    have HO1 := Lib.hid (HO0.out.mono hb)
    have HBS := Lib.hid (HBW0.out.trans (hb.mono HBW0.out.size))
    clear hb
    go_wp2_with fail
    refine (l1In_eq H2.out _).mono ?_
    rintro e w2 ⟨rfl, rfl⟩
  · go_wp2
    go_ret2
    exact ⟨_, _, rfl, own_less HO1.out (by omega), HBS.out⟩
  simp only [Bool.and_true, if_true]
  have hx1 : x ≠ -1 := by have := (inB_iff.1 H2.out).1; omega
  have HX := Lib.hid hx1
  clear hx1
  go_wp2
  go_loopw [6, 7] (fun u i wr => ∃ (k n c : Nat) (A : Option Addr), k ≤ 16 ∧ i = .int .i64 k ∧ u = .slice A n c ∧ n ≤ 16 ∧ Hid (n = (pagesL ((qIs x)) T.D T.E k).length) ∧ Hid (Own wr (w.heap.size + 1) (ti A n c (pagesL ((qIs x)) T.D T.E k))) ∧ Hid (Below w.heap.size w wr) ∧ Hid (Box wr w.heap.size 27 #[.slice T.Ad T.D.length T.cd, .slice T.Al T.L.length T.cl]) ∧ w.heap.size < wr.heap.size) (fun _ i _ => 16 - (intOf i).toNat)
  case atStart => exact ⟨0, 0, 0, _, Nat.zero_le _, rfl, rfl, by omega, by rfl, HO1.out, HBS.out, HX1.out, Z1⟩
  case round =>
    obtain ⟨k, n, c, A, hk, rfl, rfl, hn16, hnu, HO, HB, HBB, hsz⟩ := hrel
    have C1 := HBB.out.cell
    by_cases hlt : k < 16
    · obtain ⟨e0, he0⟩ : ∃ e0, getE T.D T.E k = e0 := ⟨_, rfl⟩
      have HE0 := Lib.hid he0
      have hf : frO T.D T.E k = e0.f0 := by unfold frO; rw [he0]
      have HF := Lib.hid hf
      clear he0 hf
      obtain ⟨f, fw⟩ := e0
      dsimp only at HF
      cases hn : (f == x)
      all_goals have HN := Lib.hid hn
      · have hno : Hid (pgB ((qIs x)) T.D T.E k = false) := by show (frO T.D T.E k != -1 && (qIs x) (frO T.D T.E k)) = false; rw [HF.out]; show (f != -1 && (f == x)) = false; rw [hn]; simp
        have hfd := fieldE0 f fw
        go_wp2_with fail
        refine (l4Get_at T k f fw _ (hr.keep HB.out) HG.out hlt HE0.out).mono ?_
        rintro e w1 ⟨rfl, hb⟩
        have HB1 := Lib.hid (below_next HB.out hb)
        have HBB1 := Lib.hid (HBB.out.keep hb)
        have HO1 := Lib.hid (HO.out.mono hb)
        have hsz1 : w.heap.size < w1.heap.size := Nat.lt_of_lt_of_le hsz hb.size
        clear hb
        go_wp2
        go_roundw
        case rel => exact ⟨k + 1, n, c, A, by omega, by go_num, rfl, hn16, by rw [pagesL_no hno.out]; exact hnu.out, by rw [pagesL_no hno.out]; exact HO1.out, HB1, HBB1, hsz1⟩
        case measure => simp [intOf]; omega
      · have hyes : Hid (pgB ((qIs x)) T.D T.E k = true) := by show (frO T.D T.E k != -1 && (qIs x) (frO T.D T.E k)) = true; rw [HF.out]; show (f != -1 && (f == x)) = true; have h3 := HX.out; rw [hn, Bool.and_true]; simp at hn; subst hn; simpa using h3
        have hfd := fieldE0 f fw
        go_wp2_with fail
        refine (l4Get_at T k f fw _ (hr.keep HB.out) HG.out hlt HE0.out).mono ?_
        rintro e w1 ⟨rfl, hb⟩
        have HB1 := Lib.hid (below_next HB.out hb)
        have HBB1 := Lib.hid (HBB.out.keep hb)
        have HO1 := Lib.hid (HO.out.mono hb)
        have hsz1 : w.heap.size < w1.heap.size := Nat.lt_of_lt_of_le hsz hb.size
        clear hb
        go_wp2_with (at_builtin; refine wpList_app _ rfl _ _ 24 rfl (w.heap.size + 1) 3 i0 (.int .i64 0) 1 8 Try.underlying24 HI.out HZ0.out HZ1.out HZ2.out rfl (by decide) _ _ _ _ rfl (World.ownsRow.alloc HO1.out _) _ _ _ _ rfl (Rd.one _ _ _) (by simp [Value.oneCell']) (by unfold maxLen; omega) (by omega) (by simp; omega) ?_; intro A' c' w3 hown hgrow hat)
        have HUS : Hid (pagesL ((qIs x)) T.D T.E (k + 1) = pagesL ((qIs x)) T.D T.E k ++ [(k : Int)]) := pagesL_yes hyes.out
        have hown2 : Own w3 (w.heap.size + 1) (ti A' (n + 1) c' (pagesL ((qIs x)) T.D T.E (k + 1))) := by rw [HUS.out]; show w3.ownsRow _ _ _ _ _ (I _); rw [I_append]; exact hown
        have hbw : Below w.heap.size w w3 := by
          refine (HB1.out.alloc (Nat.le_of_lt hsz1) _).grown hgrow (by simp; omega) fun g hg => ?_
          have := (HO1.out.lt g (by rw [ownBlock_slice]; exact hg)).1
          omega
        have hbb : Box w3 w.heap.size 27 #[.slice T.Ad T.D.length T.cd, .slice T.Al T.L.length T.cl] := by
          refine (HBB1.out.alloc _).grown hgrow fun hg => ?_
          have := (HO1.out.lt _ (by rw [ownBlock_slice]; exact hg)).1
          omega
        have hsz3 : w.heap.size < w3.heap.size := by have := hgrow.size; simp at this; omega
        have HN1 : Hid (n + 1 ≤ 16) := by
          have := pagesL_len ((qIs x)) T.D T.E k
          have := hnu.out
          show _ ≤ _; omega
        have HO2 := Lib.hid hown2
        have HBW := Lib.hid hbw
        have HBB2 := Lib.hid hbb
        clear hown hgrow hat hown2 hbw hbb
        go_wp2
        go_roundw
        case rel => exact ⟨k + 1, n + 1, c', A', by omega, by go_num, rfl, HN1.out, by rw [HUS.out]; show _ = _; simp [hnu.out], HO2, HBW, HBB2, hsz3⟩
        case measure => simp [intOf]; omega
    · have HK : Hid (k = 16) := by show k = 16; omega
      go_wp2
      go_ret2
      have h1 := HO.out
      have h2 := hnu.out
      rw [HK.out] at h1 h2
      rw [h2] at h1
      exact ⟨A, c, by show Ending.returned (.tuple #[.slice A n c, .bool true]) = _; rw [h2], own_less h1 (by omega), HB.out⟩

theorem mpL_len (D : List Int) (E : List (List REntry)) : (mpL D E).length ≤ 16 := by
  unfold mpL
  split
  · exact pagesL_len _ _ _ _
  · simp
theorem onL_len (D : List Int) (E : List (List REntry)) (x : Int) : (onL D E x).length ≤ 16 := by
  unfold onL
  split
  · exact pagesL_len _ _ _ _
  · simp
end Go.Proofs.Ytaaocnfbbajphaa
