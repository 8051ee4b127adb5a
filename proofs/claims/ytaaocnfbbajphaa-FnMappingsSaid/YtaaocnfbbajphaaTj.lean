/- Contracts of entryOf, frameOf, l4Get, translate, Translate. Tables not too large. -/
import Derived.Test.YtaaocnfbbajphaaTx
namespace Go.Proofs.Ytaaocnfbbajphaa
open Go.RowKit
set_option linter.unusedVariables false
set_option linter.unusedSimpArgs false

theorem dir_get {D : List Int} (h4 : D.length = 4) {p : Nat} (hp : p < 16) : D[p / 4]? = some (dirOf D p) := by
  have : p / 4 < D.length := by omega
  unfold dirOf
  rw [List.getElem?_eq_getElem this]; rfl

set_option maxHeartbeats 1000000 in
theorem entryOf_none (T : Tab) (p : Nat) (w : World) (hr : RdT w T) (h4 : T.D.length = 4) (hp : p < 16) (hd : dirOf T.D p = -1) :
    Calls Try.prog 55 #[tabV T, .int .i64 p] w fun e w' => e = .returned (.pointer none) ∧ Below w.heap.size w w' := by
  obtain ⟨Ad, cd, D, Al, cl, L⟩ := T
  dsimp only at h4 hd
  show Calls Try.prog 55 #[.agg #[.slice Ad D.length cd, .slice Al L.length cl], _] w _
  obtain ⟨b, o, rfl, hbl, hcd⟩ := hr.dirs h4
  have hg := dir_get h4 hp
  rw [h4]
  obtain ⟨a, ha⟩ : ∃ a, a = p / 4 := ⟨_, rfl⟩
  rw [← ha, hd] at hg
  have hc := hcd.out a _ hg
  have hq : (p : Int) / 4 = (a : Int) := by omega
  have ha4 : a < 4 := by omega
  clear hg ha hd h4 hr
  go_enter Try.func55, Try.ntmps55
  go_wp2
  go_ret
  exact ⟨rfl, below_alloc _ _⟩
set_option maxHeartbeats 1000000 in
theorem entryOf_some (T : Tab) (p j b2 o2 r : Nat) (l : Leaf) (w : World) (hr : RdT w T) (h4 : T.D.length = 4) (hp : p < 16) (hd : dirOf T.D p = (j : Int)) (hl : T.L[j]? = some l) (hA : l.A = some ⟨b2, o2, none⟩) (hl4 : l.es.length = 4) (hr4 : p % 4 = r) :
    Calls Try.prog 55 #[tabV T, .int .i64 p] w fun e w' => e = .returned (.pointer (some ⟨b2, o2 + r * 2, none⟩)) ∧ Below w.heap.size w w' := by
  obtain ⟨Ad, cd, D, Al, cl, L⟩ := T
  obtain ⟨lA, lc, es⟩ := l
  dsimp only at h4 hd hl hA hl4
  subst hA
  show Calls Try.prog 55 #[.agg #[.slice Ad D.length cd, .slice Al L.length cl], _] w _
  obtain ⟨b, o, rfl, hbl, hcd⟩ := hr.dirs h4
  obtain ⟨b3, o3, hAl, hbl3, hc3⟩ := hr.rowAt hl
  dsimp only at hAl hc3
  subst hAl
  have hg := dir_get h4 hp
  have hjl : j < L.length := (List.getElem?_eq_some_iff.1 hl).1
  rw [h4]
  rw [hl4] at hc3
  obtain ⟨a, ha⟩ : ∃ a, a = p / 4 := ⟨_, rfl⟩
  rw [← ha, hd] at hg
  have hc := hcd.out a _ hg
  have hq : (p : Int) / 4 = (a : Int) := by omega
  have hm : (p : Int) % 4 = (r : Int) := by omega
  have ha4 : a < 4 := by omega
  have hr44 : r < 4 := by omega
  have hne : ((j : Int) == -1) = false := by simp <;> omega
  clear hg ha hd h4 hr hl hl4 hr4
  go_enter Try.func55, Try.ntmps55
  go_wp2
  go_ret
  exact ⟨rfl, below_alloc _ _⟩

/-- where the entry of a page lies -/
theorem entry_at {w : World} {T : Tab} (hr : RdT w T) (hg : Good T.D T.E) {p : Nat} (hp : p < 16) (hd : dirOf T.D p ≠ -1) :
    ∃ (j b o : Nat) (l : Leaf) (e : REntry), dirOf T.D p = (j : Int) ∧ T.L[j]? = some l ∧ l.A = some ⟨b, o, none⟩ ∧ b < w.heap.size ∧ l.es.length = 4 ∧ l.es[p % 4]? = some e ∧ entO T.D T.E p = some e ∧ entBad e = false ∧
      w.cell? ⟨b, o + p % 4 * 2, none⟩ = some (.int .i64 e.f0) ∧ w.cell? ⟨b, o + p % 4 * 2 + 1, none⟩ = some (.bool e.f1) := by
  obtain ⟨j, es, e, h1, h2, h3, h4, h5, h6⟩ := hg.leafAt hp hd
  obtain ⟨l, hl, rfl⟩ : ∃ l, T.L[j]? = some l ∧ l.es = es := by
    simp only [Tab.E, List.getElem?_map, Option.map_eq_some_iff] at h2
    exact h2
  obtain ⟨b, o, hA, hb, hc0, hc1⟩ := hr.entAt hl h4
  exact ⟨j, b, o, l, e, h1, hl, hA, hb, leafB_len h3, h4, h5, h6, hc0, hc1⟩

set_option maxHeartbeats 1000000 in
theorem frameOf_eq (T : Tab) (p : Nat) (w : World) (hr : RdT w T) (hg : Good T.D T.E) (hp : p < 16) (f : Int) (hf : frO T.D T.E p = f) :
    Calls Try.prog 53 #[tabV T, .int .i64 p] w fun e w' => e = .returned (.int .i64 f) ∧ Below w.heap.size w w' := by
  have hl4 := hg.len
  by_cases hd : dirOf T.D p = -1
  · obtain rfl : (-1 : Int) = f := by rw [← hf]; simp [frO, getE, entO_none hd]
    have HD := Lib.hid hd
    have H4 := Lib.hid hl4
    clear hd hf hl4 hg
    go_enter Try.func53, Try.ntmps53
    go_wp2_with fail
    refine (entryOf_none T p _ (hr.keep (below_alloc _ _)) H4.out hp HD.out).mono ?_
    rintro e w1 ⟨rfl, hb⟩
    go_wp2
    go_ret
    exact ⟨rfl, below_next (below_alloc _ _) hb⟩
  · obtain ⟨j, b, o, l, e, h1, h2, h3, hb, h5, _, h6, _, hc0, hc1⟩ := entry_at hr hg hp hd
    obtain rfl : e.f0 = f := by rw [← hf]; simp [frO, getE, h6]
    have H1 := Lib.hid h1
    have H2 := Lib.hid h2
    have H3 := Lib.hid h3
    have H5 := Lib.hid h5
    have H4 := Lib.hid hl4
    have HC0 := Lib.hid hc0
    clear hd hf hl4 hg h1 h2 h3 h5 h6 hc0 hc1
    go_enter Try.func53, Try.ntmps53
    go_wp2_with fail
    refine (entryOf_some T p j b o (p % 4) l _ (hr.keep (below_alloc _ _)) H4.out hp H1.out H2.out H3.out H5.out rfl).mono ?_
    rintro e w1 ⟨rfl, hb1⟩
    have hc : w1.cell? ⟨b, o + p % 4 * 2, none⟩ = some (.int .i64 e.f0) := ((below_next (below_alloc _ _) hb1).cell (p := ⟨b, o + p % 4 * 2, none⟩) hb).trans HC0.out
    go_wp2
    go_ret
    exact ⟨rfl, below_next (below_alloc _ _) hb1⟩

set_option maxHeartbeats 1000000 in
theorem l4Get_eq (T : Tab) (p : Nat) (w : World) (hr : RdT w T) (hg : Good T.D T.E) (hp : p < 16) (e : REntry) (he : getE T.D T.E p = e) :
    Calls Try.prog 42 #[tabV T, .int .i64 p] w fun x w' => x = .returned (vEntry e) ∧ Below w.heap.size w w' := by
  have h4 := hg.len
  by_cases hd : dirOf T.D p = -1
  · obtain rfl : noE = e := by rw [← he]; simp [getE, entO_none hd]
    obtain ⟨Ad, cd, D, Al, cl, L⟩ := T
    dsimp only at h4 hd
    show Calls Try.prog 42 #[.agg #[.slice Ad D.length cd, .slice Al L.length cl], _] w _
    obtain ⟨b, o, rfl, hbl, hcd⟩ := hr.dirs h4
    have hgt := dir_get h4 hp
    rw [h4]
    obtain ⟨a, ha⟩ : ∃ a, a = p / 4 := ⟨_, rfl⟩
    rw [← ha, hd] at hgt
    have hc := hcd.out a _ hgt
    have hq : (p : Int) / 4 = (a : Int) := by omega
    have ha4 : a < 4 := by omega
    clear hgt ha hd h4 hr he hg
    go_enter Try.func42, Try.ntmps42
    go_wp2
    refine bodyPost_ret (v := vEntry noE) (by simp [results, Try.results42, go_sem]) rfl ⟨rfl, ?_⟩
    exact (below_alloc w _).alloc (by simp) _
  · obtain ⟨j, b2, o2, l, e', h1, h2, h3, hb, h5, _, h6, _, hc0, hc1⟩ := entry_at hr hg hp hd
    obtain rfl : e' = e := by rw [← he]; simp [getE, h6]
    obtain ⟨Ad, cd, D, Al, cl, L⟩ := T
    obtain ⟨lA, lc, es⟩ := l
    dsimp only at h4 hd h1 h2 h3 h5
    subst h3
    show Calls Try.prog 42 #[.agg #[.slice Ad D.length cd, .slice Al L.length cl], _] w _
    obtain ⟨b, o, rfl, hbl, hcd⟩ := hr.dirs h4
    obtain ⟨b3, o3, hAl, hbl3, hc3⟩ := hr.rowAt h2
    dsimp only at hAl hc3
    subst hAl
    have hgt := dir_get h4 hp
    have hjl : j < L.length := (List.getElem?_eq_some_iff.1 h2).1
    rw [h4]
    rw [h5] at hc3
    obtain ⟨a, ha⟩ : ∃ a, a = p / 4 := ⟨_, rfl⟩
    obtain ⟨r, hr4⟩ : ∃ r, r = p % 4 := ⟨_, rfl⟩
    rw [← ha, h1] at hgt
    rw [← hr4] at hc0 hc1
    have hc := hcd.out a _ hgt
    have hq : (p : Int) / 4 = (a : Int) := by omega
    have hm : (p : Int) % 4 = (r : Int) := by omega
    have ha4 : a < 4 := by omega
    have hr44 : r < 4 := by omega
    have hne : ((j : Int) != -1) = true := by simp <;> omega
    clear hgt ha h1 h4 hr h2 h5 hr4 hd hg he h6
    go_enter Try.func42, Try.ntmps42
    go_wp2
    refine bodyPost_ret (v := vEntry e') (by simp [results, Try.results42, go_sem]) rfl ⟨rfl, ?_⟩
    exact (below_alloc w _).alloc (by simp) _

/-- what a page translates to: the frame, or -1, and the fault -/
def trE (e : Option REntry) (wr : Bool) : Int × Int :=
  match e with
  | none => (-1, 1)
  | some e => if e.f0 = -1 then (-1, 2) else if wr && !e.f1 then (-1, 3) else (e.f0, 0)
set_option maxHeartbeats 1000000 in
theorem translate_eq (T : Tab) (p : Nat) (wr : Bool) (w : World) (hr : RdT w T) (hg : Good T.D T.E) (hp : p < 16) (f k : Int) (hf : trE (entO T.D T.E p) wr = (f, k)) :
    Calls Try.prog 52 #[tabV T, .int .i64 p, .bool wr] w fun e w' => e = .returned (.tuple #[.int .i64 f, .int .i64 k]) ∧ Below w.heap.size w w' := by
  have hl4 := hg.len
  by_cases hd : dirOf T.D p = -1
  · rw [entO_none hd] at hf
    simp only [trE, Prod.mk.injEq] at hf
    obtain ⟨rfl, rfl⟩ := hf
    have HD := Lib.hid hd
    have H4 := Lib.hid hl4
    clear hd hl4 hg
    go_enter Try.func52, Try.ntmps52
    go_wp2_with fail
    refine (entryOf_none T p _ (hr.keep (below_alloc _ _)) H4.out hp HD.out).mono ?_
    rintro e w1 ⟨rfl, hb⟩
    go_wp2
    go_ret2
    exact ⟨rfl, below_next (below_alloc _ _) hb⟩
  · obtain ⟨j, b, o, l, e, h1, h2, h3, hb, h5, _, h6, _, hc0, hc1⟩ := entry_at hr hg hp hd
    rw [h6] at hf
    have H1 := Lib.hid h1
    have H2 := Lib.hid h2
    have H3 := Lib.hid h3
    have H5 := Lib.hid h5
    have H4 := Lib.hid hl4
    have HC0 := Lib.hid hc0
    have HC1 := Lib.hid hc1
    clear hd hl4 hg h1 h2 h3 h5 h6 hc0 hc1
    obtain ⟨e0, e1⟩ := e
    dsimp only at HC0 HC1
    by_cases he : e0 = -1
    · subst he
      simp only [trE, if_true, Prod.mk.injEq] at hf
      obtain ⟨rfl, rfl⟩ := hf
      go_enter Try.func52, Try.ntmps52
      go_wp2_with fail
      refine (entryOf_some T p j b o (p % 4) l _ (hr.keep (below_alloc _ _)) H4.out hp H1.out H2.out H3.out H5.out rfl).mono ?_
      rintro e w1 ⟨rfl, hb1⟩
      have hc : w1.cell? ⟨b, o + p % 4 * 2, none⟩ = some (.int .i64 (-1)) := ((below_next (below_alloc _ _) hb1).cell (p := ⟨b, o + p % 4 * 2, none⟩) hb).trans HC0.out
      go_wp2
      go_ret2
      exact ⟨rfl, below_next (below_alloc _ _) hb1⟩
    · have heb : (e0 == -1) = false := by simp [he]
      simp only [trE, he, if_false] at hf
      clear he
      cases wr <;> cases e1 <;> simp at hf
      all_goals
        obtain ⟨rfl, rfl⟩ := hf
        go_enter Try.func52, Try.ntmps52
        go_wp2_with fail
        refine (entryOf_some T p j b o (p % 4) l _ (hr.keep (below_alloc _ _)) H4.out hp H1.out H2.out H3.out H5.out rfl).mono ?_
        rintro e w1 ⟨rfl, hb1⟩
        have hc := ((below_next (below_alloc _ _) hb1).cell (p := ⟨b, o + p % 4 * 2, none⟩) hb).trans HC0.out
        have hd := ((below_next (below_alloc _ _) hb1).cell (p := ⟨b, o + p % 4 * 2 + 1, none⟩) hb).trans HC1.out
        go_wp2
        go_ret2
        exact ⟨rfl, below_next (below_alloc _ _) hb1⟩

/-- a page of a good table -/
noncomputable def pageOk (D : List Int) (E : List (List REntry)) (p : Int) : Bool := goodB D E && inB p 0 15
theorem pageOk_nat {D : List Int} {E : List (List REntry)} {p : Int} (h : inB p 0 15 = true) : ∃ q : Nat, p = q ∧ q < 16 := by
  obtain ⟨h0, h1⟩ := inB_iff.1 h
  obtain ⟨q, rfl⟩ := Int.eq_ofNat_of_zero_le h0
  exact ⟨q, rfl, by omega⟩
noncomputable def trR (D : List Int) (E : List (List REntry)) (p : Int) (wr : Bool) : Int × Int := if pageOk D E p then trE (entO D E p.toNat) wr else (0, 0)
set_option maxHeartbeats 1000000 in
theorem i_Translate_any (T : Tab) (p : Int) (wr : Bool) (w : World) (hr : RdT w T) (B : Bd T) (hcap : T.D.length ≤ T.cd ∧ T.cd ≤ maxLen) (D : List Int) (E : List (List REntry)) (hD : T.D = D) (hE : T.E = E) :
    Calls Try.prog 12 #[tabV T, .int .i64 p, .bool wr] w fun e w' => e = .returned (.tuple #[.int .i64 (trR D E p wr).1, .int .i64 (trR D E p wr).2, .bool (pageOk D E p)]) ∧ Below w.heap.size w w' := by
  subst hD hE
  unfold trR pageOk
  cases h1 : goodB T.D T.E
  all_goals have H1 := Lib.hid h1
  all_goals clear h1
  · go_enter Try.func12, Try.ntmps12
    go_wp2_with fail
    refine (i_IsTable_eq T _ (hr.keep (below_alloc _ _)) B.d B.n B.l _ H1.out).mono ?_
    rintro e w1 ⟨rfl, hb⟩
    go_wp2
    go_ret3
    exact ⟨rfl, below_next (below_alloc _ _) hb⟩
  · have HG := Lib.hid (goodB_iff.1 H1.out)
    cases h2 : inB p 0 15
    all_goals have H2 := Lib.hid h2
    all_goals clear h2
    · go_enter Try.func12, Try.ntmps12
      go_wp2_with fail
      refine (i_IsTable_eq T _ (hr.keep (below_alloc _ _)) B.d B.n B.l _ H1.out).mono ?_
      rintro e w1 ⟨rfl, hb⟩
      go_wp2_with fail
      refine (isPage_eq H2.out _).mono ?_
      rintro e w2 ⟨rfl, rfl⟩
      go_wp2
      go_ret3
      exact ⟨rfl, below_next (below_alloc _ _) hb⟩
    · obtain ⟨q, rfl, hq⟩ := pageOk_nat (D := []) (E := []) H2.out
      obtain ⟨f, k, hfk⟩ : ∃ f k, trE (entO T.D T.E q) wr = (f, k) := ⟨_, _, rfl⟩
      simp only [Bool.true_and, if_true, Int.toNat_natCast, hfk]
      have HFK := Lib.hid hfk
      have B0 := Box.new w 27 #[.slice T.Ad T.D.length T.cd, .slice T.Al T.L.length T.cl]
      have HB0 := Lib.hid B0
      clear hfk B0
      go_enter Try.func12, Try.ntmps12
      go_wp2_with fail
      refine (i_IsTable_eq T _ (hr.keep (below_alloc _ _)) B.d B.n B.l _ H1.out).mono ?_
      rintro e w1 ⟨rfl, hb⟩
      have C0 := (HB0.out.keep hb).cell
      have hb' := below_next (below_alloc _ _) hb
      have HB := Lib.hid hb'
      clear hb hb'
      go_wp2_with fail
      refine (isPage_eq H2.out _).mono ?_
      rintro e w2 ⟨rfl, rfl⟩
      go_wp2_with fail
      refine (translate_eq T q wr _ (hr.keep HB.out) HG.out hq f k HFK.out).mono ?_
      rintro e w2 ⟨rfl, hb2⟩
      go_wp2
      go_ret3
      exact ⟨rfl, below_next HB.out hb2⟩
theorem l4Page_at (T : Tab) (p : Int) (w : World) (hr : RdT w T) (B : Bd T) (hcap : T.D.length ≤ T.cd ∧ T.cd ≤ maxLen) (r : Bool) (hR : pageOk T.D T.E p = r) :
    Calls Try.prog 40 #[tabV T, .int .i64 p] w fun e w' => e = .returned (.bool r) ∧ Below w.heap.size w w' := l4Page_eq T p w hr B hcap r hR
theorem pageOk_good {D : List Int} {E : List (List REntry)} {p : Int} (h : pageOk D E p = true) : Good D E ∧ ∃ q : Nat, p = q ∧ q < 16 := by
  simp only [pageOk, Bool.and_eq_true] at h
  exact ⟨goodB_iff.1 h.1, pageOk_nat (D := []) (E := []) h.2⟩
set_option maxHeartbeats 1000000 in
theorem s_Translate_any (T : Tab) (p : Int) (wr : Bool) (w : World) (hr : RdT w T) (B : Bd T) (hcap : T.D.length ≤ T.cd ∧ T.cd ≤ maxLen) (D : List Int) (E : List (List REntry)) (hD : T.D = D) (hE : T.E = E) :
    Calls Try.prog 17 #[tabV T, .int .i64 p, .bool wr] w fun e w' => e = .returned (.tuple #[.int .i64 (trR D E p wr).1, .int .i64 (trR D E p wr).2, .bool (pageOk D E p)]) ∧ Below w.heap.size w w' := by
  subst hD hE
  have HC := Lib.hid hcap
  clear hcap
  unfold trR
  cases h1 : pageOk T.D T.E p
  all_goals have H1 := Lib.hid h1
  all_goals clear h1
  · go_enter Try.func17, Try.ntmps17
    go_wp2_with fail
    refine (l4Page_at T p _ (hr.keep (below_alloc _ _)) B HC.out _ H1.out).mono ?_
    rintro e w1 ⟨rfl, hb⟩
    go_wp2
    go_ret3
    exact ⟨rfl, below_next (below_alloc _ _) hb⟩
  · have HG := Lib.hid (pageOk_good H1.out).1
    obtain ⟨q, rfl, hq⟩ := (pageOk_good H1.out).2
    simp only [if_true, Int.toNat_natCast]
    obtain ⟨Ad, cd, D, Al, cl, L⟩ := T
    have h4 := HG.out.len
    dsimp only at h4
    obtain ⟨b, o, rfl, hbl, hcd⟩ := hr.dirs h4
    have hgt := dir_get h4 hq
    obtain ⟨a, ha⟩ : ∃ a, a = q / 4 := ⟨_, rfl⟩
    rw [← ha] at hgt
    have hqa : (q : Int) / 4 = (a : Int) := by omega
    have ha4 : (a : Int) < (D.length : Int) := by omega
    have HX := Lib.hid (hcd.out a _ hgt)
    have B0 := Box.new w 27 #[.slice (some ⟨b, o, none⟩) D.length cd, .slice Al L.length cl]
    have HB0 := Lib.hid B0
    have HE : Hid (getE D (Tab.E ⟨some ⟨b, o, none⟩, cd, D, Al, cl, L⟩) q = getE D (Tab.E ⟨some ⟨b, o, none⟩, cd, D, Al, cl, L⟩) q) := rfl
    clear hgt ha h4 B0
    have HQA := Lib.hid hqa
    clear hqa
    by_cases hd : dirOf D q = -1
    · rw [hd] at HX
      have hgn : getE D (Tab.E ⟨some ⟨b, o, none⟩, cd, D, Al, cl, L⟩) q = noE := by simp [getE, entO_none hd]
      have HGN := Lib.hid hgn
      have htr : trE (entO D (Tab.E ⟨some ⟨b, o, none⟩, cd, D, Al, cl, L⟩) q) wr = (-1, 1) := by rw [entO_none hd]; rfl
      simp only [htr]
      clear htr hgn hd
      go_enter Try.func17, Try.ntmps17
      go_wp2_with fail
      refine (l4Page_at _ _ _ (hr.keep (below_alloc _ _)) B HC.out _ H1.out).mono ?_
      rintro e w1 ⟨rfl, hb⟩
      have C0 := (HB0.out.keep hb).cell
      have HB := Lib.hid (below_next (below_alloc _ _) hb)
      have HBx := Lib.hid (HB0.out.keep hb)
      clear hb
      go_wp2_with fail
      refine (l4Get_eq _ q _ (hr.keep HB.out) HG.out hq _ HGN.out).mono ?_
      rintro e w2 ⟨rfl, hb⟩
      clear C0
      have C0 := (HBx.out.keep hb).cell
      have Z0 := (HBx.out.keep hb).lt
      have HB2 := Lib.hid (below_next HB.out hb)
      have hc : w2.cell? ⟨b, o + a, none⟩ = some (.int .i64 (-1)) := (HB2.out.cell (p := ⟨b, o + a, none⟩) hbl).trans HX.out
      have hbl2 : b < w2.heap.size := Nat.lt_of_lt_of_le hbl HB2.out.size
      have hqa := HQA.out
      clear hb
      go_wp2
      go_ret3
      exact ⟨rfl, HB2.out.alloc (by have := HB2.out.size; omega) _⟩
    · have hdb : (dirOf D q == -1) = false := by simp [hd]
      obtain ⟨d, hdd⟩ : ∃ d, d = dirOf D q := ⟨_, rfl⟩
      obtain ⟨j, es, e, h1, h2, h3, h4, h5, h6⟩ := HG.out.leafAt hq hd
      have hgn : getE D (Tab.E ⟨some ⟨b, o, none⟩, cd, D, Al, cl, L⟩) q = e := by simp only at h5; simp [getE, h5]
      have HGN := Lib.hid hgn
      simp only at h5
      simp only [h5]
      rw [← hdd] at HX hdb
      clear hgn h1 h2 h3 h4 h5 h6 hd hdd
      obtain ⟨e0, e1⟩ := e
      by_cases he : e0 = -1
      · subst he
        simp only [trE, if_true]
        go_enter Try.func17, Try.ntmps17
        go_wp2_with fail
        refine (l4Page_at _ _ _ (hr.keep (below_alloc _ _)) B HC.out _ H1.out).mono ?_
        rintro e w1 ⟨rfl, hb⟩
        have C0 := (HB0.out.keep hb).cell
        have HB := Lib.hid (below_next (below_alloc _ _) hb)
        have HBx := Lib.hid (HB0.out.keep hb)
        clear hb
        go_wp2_with fail
        refine (l4Get_eq _ q _ (hr.keep HB.out) HG.out hq _ HGN.out).mono ?_
        rintro e w2 ⟨rfl, hb⟩
        clear C0
        have C0 := (HBx.out.keep hb).cell
        have Z0 := (HBx.out.keep hb).lt
        have HB2 := Lib.hid (below_next HB.out hb)
        have hc : w2.cell? ⟨b, o + a, none⟩ = some (.int .i64 d) := (HB2.out.cell (p := ⟨b, o + a, none⟩) hbl).trans HX.out
        have hbl2 : b < w2.heap.size := Nat.lt_of_lt_of_le hbl HB2.out.size
        have hqa := HQA.out
        clear hb
        go_wp2
        go_ret3
        exact ⟨rfl, HB2.out.alloc (by have := HB2.out.size; omega) _⟩
      · have heb : (e0 == -1) = false := by simp [he]
        simp only [trE, he, if_false]
        clear he
        cases wr <;> cases e1 <;> simp
        all_goals
          go_enter Try.func17, Try.ntmps17
          go_wp2_with fail
          refine (l4Page_at _ _ _ (hr.keep (below_alloc _ _)) B HC.out _ H1.out).mono ?_
          rintro e w1 ⟨rfl, hb⟩
          have C0 := (HB0.out.keep hb).cell
          have HB := Lib.hid (below_next (below_alloc _ _) hb)
          have HBx := Lib.hid (HB0.out.keep hb)
          clear hb
          go_wp2_with fail
          refine (l4Get_eq _ q _ (hr.keep HB.out) HG.out hq _ HGN.out).mono ?_
          rintro e w2 ⟨rfl, hb⟩
          clear C0
          have C0 := (HBx.out.keep hb).cell
          have Z0 := (HBx.out.keep hb).lt
          have HB2 := Lib.hid (below_next HB.out hb)
          have hc : w2.cell? ⟨b, o + a, none⟩ = some (.int .i64 d) := (HB2.out.cell (p := ⟨b, o + a, none⟩) hbl).trans HX.out
          have hbl2 : b < w2.heap.size := Nat.lt_of_lt_of_le hbl HB2.out.size
          have hqa := HQA.out
          clear hb
          go_wp2
          go_ret3
          exact ⟨rfl, HB2.out.alloc (by have := HB2.out.size; omega) _⟩
end Go.Proofs.Ytaaocnfbbajphaa
