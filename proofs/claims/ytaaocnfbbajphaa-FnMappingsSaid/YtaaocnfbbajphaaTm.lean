/- Contracts of IsWithin in the program and in the reference. Tables not too large. -/
import Derived.Test.YtaaocnfbbajphaaTl
import Derived.Test.YtaaocnfbbajphaaFa
import Derived.Deep.RegionWith
namespace Go.Proofs.Ytaaocnfbbajphaa
open Go.RowKit
set_option linter.unusedVariables false
set_option linter.unusedSimpArgs false

set_option maxHeartbeats 400000 in
theorem isGuest_eq {x : Int} {r : Bool} (h : inB x 1 4 = r) (w : World) :
    Calls Try.prog 70 #[.int .i64 x] w fun e w' => e = .returned (.bool r) ∧ w = w' := by
  have H := Lib.hid h
  clear h
  go_enter Try.func70, Try.ntmps70
  go_wp2_with fail
  refine (inside_eq H.out _).mono ?_
  rintro e w1 ⟨rfl, rfl⟩
  go_wp2
  go_ret
  exact ⟨rfl, rfl⟩
set_option maxHeartbeats 400000 in
theorem l2Guest_eq (A : Option Addr) (n c : Nat) (xs : List Int) (g : Int) (w : World) (hr : Rd w 1 A n (I xs)) (hn : n ≤ 4503599627370496) (r : Bool) (hR : (ownB xs && inB g 1 4) = r) :
    Calls Try.prog 72 #[.slice A n c, .int .i64 g] w fun e w' => e = .returned (.bool r) ∧ w = w' := by
  cases h1 : ownB xs
  all_goals have H1 := Lib.hid h1
  all_goals rw [h1] at hR
  all_goals clear h1
  · obtain rfl : false = r := hR
    go_enter Try.func72, Try.ntmps72
    go_wp2_with fail
    refine (l2Good_eq _ _ _ xs _ hr hn _ H1.out).mono ?_
    rintro e w1 ⟨rfl, rfl⟩
    go_wp2
    go_ret
    exact ⟨rfl, rfl⟩
  · rw [Bool.true_and] at hR
    have HR := Lib.hid hR
    clear hR
    go_enter Try.func72, Try.ntmps72
    go_wp2_with fail
    refine (l2Good_eq _ _ _ xs _ hr hn _ H1.out).mono ?_
    rintro e w1 ⟨rfl, rfl⟩
    go_wp2_with fail
    refine (l1In_eq HR.out _).mono ?_
    rintro e w1 ⟨rfl, rfl⟩
    go_wp2
    go_ret
    exact ⟨rfl, rfl⟩

/-- is it told whether the table is within the guest's frames -/
noncomputable def wiOk (D : List Int) (E : List (List REntry)) (xs : List Int) (g : Int) : Bool := goodB D E && (ownB xs && inB g 1 4)
noncomputable def wiB (D : List Int) (E : List (List REntry)) (xs : List Int) (g : Int) : Bool := wiOk D E xs g && (pagesL (qOut xs g) D E 16).isEmpty
theorem pages_out {q : Int → Bool} {D : List Int} {E : List (List REntry)} : (pagesL q D E 16).isEmpty = true ↔ ∀ p < 16, frO D E p ≠ -1 → q (frO D E p) = false := by
  simp only [pagesL, List.isEmpty_map, List.isEmpty_iff, List.filter_eq_nil_iff, List.mem_range, pgB]
  constructor
  · intro h p hp hf
    have := h p hp
    cases hq : q (frO D E p)
    · rfl
    · exfalso; apply this; simp [hf, hq]
  · intro h p hp
    by_cases hf : frO D E p = -1
    · simp [hf]
    · simp [h p hp hf]
theorem pages_mem {D : List Int} {E : List (List REntry)} {x : Int} (h : x ∈ pagesL qAll D E 16) : ∃ p : Nat, x = p ∧ p < 16 ∧ frO D E p ≠ -1 := by
  simp only [pagesL, List.mem_map, List.mem_filter, List.mem_range, pgB] at h
  obtain ⟨p, ⟨h1, h2⟩, rfl⟩ := h
  exact ⟨p, rfl, h1, by simpa [qAll] using h2⟩
theorem mem_pages {D : List Int} {E : List (List REntry)} {p : Nat} (hp : p < 16) (hf : frO D E p ≠ -1) : (p : Int) ∈ pagesL qAll D E 16 := by
  simp only [pagesL, List.mem_map, List.mem_filter, List.mem_range, pgB]
  exact ⟨p, ⟨hp, by simp [hf, qAll]⟩, rfl⟩

set_option maxHeartbeats 1000000 in
theorem i_IsWithin_any (T : Tab) (A : Option Addr) (n c : Nat) (xs : List Int) (g : Int) (w : World) (hr : RdT w T) (B : Bd T) (hcap : T.D.length ≤ T.cd ∧ T.cd ≤ maxLen) (D : List Int) (E : List (List REntry)) (hD : T.D = D) (hE : T.E = E) (hro : Rd w 1 A n (I xs)) (hn : n ≤ 1048576) :
    Calls Try.prog 24 #[tabV T, .slice A n c, .int .i64 g] w fun e w' => e = .returned (.tuple #[.bool (wiB D E xs g), .bool (wiOk D E xs g)]) ∧ Below w.heap.size w w' := by
  subst hD hE
  unfold wiB wiOk
  have hb2 := (below_alloc w (.cells #[.slice T.Ad T.D.length T.cd, .slice T.Al T.L.length T.cl] 27)).alloc (by simp) (.cells #[.slice A n c] 24)
  have hb3 := hb2.alloc (by simp; omega) (.cells #[.int .i64 g] 3)
  have B0 := ((Box.new w 27 #[.slice T.Ad T.D.length T.cd, .slice T.Al T.L.length T.cl]).alloc (.cells #[.slice A n c] 24)).alloc (.cells #[.int .i64 g] 3)
  have B1 := (Box.new1 w (.cells #[.slice T.Ad T.D.length T.cd, .slice T.Al T.L.length T.cl] 27) 24 #[.slice A n c]).alloc (.cells #[.int .i64 g] 3)
  have B2 := Box.new1 (w.alloc (.cells #[.slice T.Ad T.D.length T.cd, .slice T.Al T.L.length T.cl] 27)) (.cells #[.slice A n c] 24) 3 #[.int .i64 g]
  rw [size_alloc] at B2
  have HB3 := Lib.hid hb3
  have HX0 := Lib.hid B0
  have HX1 := Lib.hid B1
  have HX2 := Lib.hid B2
  clear hb2 hb3 B0 B1 B2
  cases h1 : goodB T.D T.E
  all_goals have H1 := Lib.hid h1
  all_goals clear h1
  · go_enter Try.func24, Try.ntmps24
    go_wp2_with fail
    refine (i_IsTable_eq T _ (hr.keep HB3.out) B.d B.n B.l _ H1.out).mono ?_
    rintro e w1 ⟨rfl, hb⟩
    go_wp2
    go_ret2
    exact ⟨rfl, HB3.out.trans (hb.mono HB3.out.size)⟩
  · have HG := Lib.hid (goodB_iff.1 H1.out)
    cases h2 : ownB xs
    all_goals have H2 := Lib.hid h2
    all_goals clear h2
    · go_enter Try.func24, Try.ntmps24
      go_wp2_with fail
      refine (i_IsTable_eq T _ (hr.keep HB3.out) B.d B.n B.l _ H1.out).mono ?_
      rintro e w1 ⟨rfl, hb⟩
      have C1 := (HX1.out.keep hb).cell
      have HB := Lib.hid (HB3.out.trans (hb.mono HB3.out.size))
      clear hb
      go_wp2_with fail
      refine (i_AreOwners_eq A n c xs _ (hro.keep HB.out) (by omega) _ H2.out).mono ?_
      rintro e w2 ⟨rfl, rfl⟩
      go_wp2
      go_ret2
      exact ⟨rfl, HB.out⟩
    · cases h3 : inB g 1 4
      all_goals have H3 := Lib.hid h3
      all_goals clear h3
      all_goals
        go_enter Try.func24, Try.ntmps24
        go_wp2_with fail
        refine (i_IsTable_eq T _ (hr.keep HB3.out) B.d B.n B.l _ H1.out).mono ?_
        rintro e w1 ⟨rfl, hb⟩
        have C0 := (HX0.out.keep hb).cell
        have C1 := (HX1.out.keep hb).cell
        have C2 := (HX2.out.keep hb).cell
        have Z1 := (HX1.out.keep hb).lt
        have Z2 := (HX2.out.keep hb).lt
        have HB := Lib.hid (HB3.out.trans (hb.mono HB3.out.size))
        clear hb
        go_wp2_with fail
        refine (i_AreOwners_eq A n c xs _ (hro.keep HB.out) (by omega) _ H2.out).mono ?_
        rintro e w2 ⟨rfl, rfl⟩
        go_wp2_with fail
        refine (isGuest_eq H3.out _).mono ?_
        rintro e w2 ⟨rfl, rfl⟩
      · go_wp2
        go_ret2
        exact ⟨rfl, HB.out⟩
      · go_wp2_with fail
        refine (pagesWhere_within T _ (hr.keep HB.out) HG.out A n c xs g _ _ (hro.keep HB.out) hn Z1 Z2 (C1 0) (C2 0)).mono ?_
        rintro e w2 ⟨A2, c2, rfl, ho, hb⟩
        go_wp2
        go_ret2
        refine ⟨?_, below_next HB.out hb⟩
        have : (((pagesL (qOut xs g) T.D T.E 16).length : Int) == 0) = (pagesL (qOut xs g) T.D T.E 16).isEmpty := by
          cases pagesL (qOut xs g) T.D T.E 16 <;> simp <;> omega
        simp [this]

set_option maxRecDepth 100000 in
set_option maxHeartbeats 2000000 in
theorem s_IsWithin_any (T : Tab) (A : Option Addr) (n c : Nat) (xs : List Int) (g : Int) (w : World) (hr : RdT w T) (B : Bd T) (hcap : T.D.length ≤ T.cd ∧ T.cd ≤ maxLen) (D : List Int) (E : List (List REntry)) (hD : T.D = D) (hE : T.E = E) (hro : Rd w 1 A n (I xs)) (hn : n ≤ 1048576) :
    Calls Try.prog 25 #[tabV T, .slice A n c, .int .i64 g] w fun e w' => e = .returned (.tuple #[.bool (wiB D E xs g), .bool (wiOk D E xs g)]) ∧ Below w.heap.size w w' := by
  subst hD hE
  have HW : Hid (wiB T.D T.E xs g = (wiOk T.D T.E xs g && (pagesL (qOut xs g) T.D T.E 16).isEmpty)) := rfl
  generalize wiB T.D T.E xs g = wb at *
  unfold wiOk at *
  have B0 := Box.new w 27 #[.slice T.Ad T.D.length T.cd, .slice T.Al T.L.length T.cl]
  have HX0 := Lib.hid B0
  have HC := Lib.hid hcap
  have HL := Lib.hid hro.len
  clear B0 hcap
  cases h1 : goodB T.D T.E
  all_goals have H1 := Lib.hid h1
  all_goals rw [h1] at HW
  all_goals clear h1
  · obtain rfl : wb = false := HW.out
    go_enter Try.func25, Try.ntmps25
    go_wp2_with fail
    refine (l4Good_eq T _ (hr.keep (below_alloc _ _)) B.d B.n B.l HC.out _ H1.out).mono ?_
    rintro e w1 ⟨rfl, hb⟩
    go_wp2
    go_ret2
    exact ⟨rfl, below_next (below_alloc _ _) hb⟩
  · have HG := Lib.hid (goodB_iff.1 H1.out)
    cases h2 : (ownB xs && inB g 1 4)
    all_goals have H2 := Lib.hid h2
    all_goals rw [h2] at HW
    all_goals clear h2
    · obtain rfl : wb = false := HW.out
      go_enter Try.func25, Try.ntmps25
      go_wp2_with fail
      refine (l4Good_eq T _ (hr.keep (below_alloc _ _)) B.d B.n B.l HC.out _ H1.out).mono ?_
      rintro e w1 ⟨rfl, hb⟩
      have HB := Lib.hid (below_next (below_alloc _ _) hb)
      clear hb
      go_wp2_with fail
      refine (l2Guest_eq A n c xs g _ (hro.keep HB.out) (by omega) _ H2.out).mono ?_
      rintro e w2 ⟨rfl, rfl⟩
      go_wp2
      go_ret2
      exact ⟨rfl, HB.out⟩
    · have HWB : Hid (wb = (pagesL (qOut xs g) T.D T.E 16).isEmpty) := HW.out
      go_enter Try.func25, Try.ntmps25
      go_wp2_with fail
      refine (l4Good_eq T _ (hr.keep (below_alloc _ _)) B.d B.n B.l HC.out _ H1.out).mono ?_
      rintro e w1 ⟨rfl, hb⟩
      have C0 := (HX0.out.keep hb).cell
      have HXX := Lib.hid (HX0.out.keep hb)
      have HB := Lib.hid (below_next (below_alloc _ _) hb)
      clear hb
      go_wp2_with fail
      refine (l2Guest_eq A n c xs g _ (hro.keep HB.out) (by omega) _ H2.out).mono ?_
      rintro e w2 ⟨rfl, rfl⟩
      go_wp2_with fail
      refine (l4Mapped_any T _ (hr.keep HB.out) HG.out).mono ?_
      rintro e w2 ⟨A2, c2, rfl, ho, hb⟩
      have HXY := Lib.hid (HXX.out.keep hb)
      have HB2 := Lib.hid (below_next HB.out hb)
      have hro2 := ho.rd
      have hlen := pagesL_len qAll T.D T.E 16
      obtain ⟨ps, hps⟩ : ∃ ps, ps = pagesL qAll T.D T.E 16 := ⟨_, rfl⟩
      dsimp only at hro2
      rw [← hps] at hro2 hlen ⊢
      have HPS := Lib.hid hps
      clear hb ho C0 hps
      go_wp2
      go_loopw [9, 10] (fun i f wr => ∃ (k : Nat), k ≤ ps.length ∧ i = .int .i64 k ∧ Hid (∀ (j : Nat) (x : Int), j < k → ps[j]? = some x → qOut xs g (frO T.D T.E x.toNat) = false) ∧ Hid (Below w.heap.size w wr) ∧ Hid (Below w2.heap.size w2 wr)) (fun i _ _ => ps.length - (intOf i).toNat)
      case atStart => exact ⟨0, Nat.zero_le _, rfl, fun j x hj => by omega, HB2, Below.refl _ _⟩
      case round =>
        obtain ⟨k, hk, rfl, HT, HBW, HBX⟩ := hrel
        by_cases hlt : k < ps.length
        · obtain ⟨b, o, x, hA2, hbl, hxk, hc⟩ := (hro2.keep HBX.out).at_ hlt
          obtain ⟨p, hxp, hp16, hpf⟩ := pages_mem (D := T.D) (E := T.E) (x := x) (by rw [← HPS.out]; exact List.mem_of_getElem? hxk.out)
          subst hxp
          obtain ⟨⟨f, fw⟩, he0⟩ : ∃ e0, getE T.D T.E p = e0 := ⟨_, rfl⟩
          have hff : frO T.D T.E p = f := by unfold frO; rw [he0]
          have hfb := HG.out.frame hp16
          rw [hff] at hfb hpf
          obtain ⟨q, rfl⟩ := Int.eq_ofNat_of_zero_le (show 0 ≤ f by omega)
          have HE0 := Lib.hid he0
          have HFF := Lib.hid hff
          have hq15 : q ≤ 15 := by omega
          have hbox := HXY.out.keep HBX.out
          have hz := hbox.lt
          have eb : ∀ (x : Ext wr) (i : Nat), x.1.cell? ⟨w.heap.size, i, none⟩ = #[.slice T.Ad T.D.length T.cd, .slice T.Al T.L.length T.cl][i]? := Ext.box hbox
          have ex : ∀ x : Ext wr, x.1.cell? ⟨b, o + k, none⟩ = some (.int .i64 (p : Int)) := fun x => (Ext.cell b hbl x _).trans hc
          have HRW := Lib.hid (hr.keep HBW.out)
          have h4 : (0 : Int) ≤ (k : Int) := by omega
          have h5 : (k : Int) < (ps.length : Int) := by omega
          have hfd : ∀ w : World, (Instr.field 67 (.agg #[.int .i64 (q : Int), .bool fw]) 0).run Try.prog w = .ok (.int .i64 (q : Int)) w := fieldE0 q fw
          clear he0 hff hfb hpf hbox hc
          subst hA2
          have hout : Hid (∀ r : Bool, qOut xs g (q : Int) = r → r = (decide ((n : Int) ≤ (q : Int)) || (xs[q]?.getD 0 != g))) := by
            intro r hr'
            rw [← hr', qOut, HL.out, Int.toNat_natCast]
          by_cases hqn : q < n
          · obtain ⟨b', o', y, hA, hbl', hyk, hyc⟩ := (hro.keep HBW.out).at_ hqn
            subst hA
            have HY : Hid (qOut xs g (q : Int) = (y != g)) := by
              have := hout.out _ rfl
              rw [hyk.out, decide_eq_false (by omega : ¬ (n : Int) ≤ (q : Int))] at this
              exact this
            have hge : decide ((n : Int) ≤ (q : Int)) = false := by simp; omega
            by_cases hyg : y = g
            · have hyb : (y != g) = false := by simp [hyg]
              have HYG := Lib.hid hyb
              go_wp2_with fail
              refine wp_region_ext (by kernel_rfl) (by kernel_rfl) ?_
              repeat (go_big_quiet_step ((go_at_call 42; refine calls_ext (l4Get_at T p q fw _ (HRW.out.keep (Subtype.property _)) HG.out hp16 HE0.out))))
              refine wpQuiet_nil ?_
              rintro w3 ⟨⟨w4, hb3⟩, rfl⟩
              have hyc3 : w3.cell? ⟨b', o' + q, none⟩ = some (.int .i64 y) := (hb3.cell (p := ⟨b', o' + q, none⟩) hbl').trans hyc
              have HB3 := Lib.hid (below_next HBW.out hb3)
              have HX3 := Lib.hid (below_next HBX.out hb3)
              clear hb3 ex eb hyc
              go_wp2
              go_roundw
              case rel =>
                refine ⟨k + 1, by omega, by go_num, fun j z hj hz => ?_, HB3, HX3⟩
                by_cases hjk : j = k
                · subst hjk
                  rw [hxk.out] at hz
                  obtain rfl := Option.some.inj hz
                  rw [Int.toNat_natCast, HFF.out, HY.out, HYG.out]
                · exact HT.out j z (by omega) hz
              case measure => simp [intOf]; omega
            · have hyb : (y != g) = true := by simp [hyg]
              have HYG := Lib.hid hyb
              go_wp2_with fail
              refine wp_region_ext (by kernel_rfl) (by kernel_rfl) ?_
              repeat (go_big_quiet_step ((go_at_call 42; refine calls_ext (l4Get_at T p q fw _ (HRW.out.keep (Subtype.property _)) HG.out hp16 HE0.out))))
              refine wpQuiet_nil ?_
              rintro w3 ⟨⟨w4, hb3⟩, rfl⟩
              have hyc3 : w3.cell? ⟨b', o' + q, none⟩ = some (.int .i64 y) := (hb3.cell (p := ⟨b', o' + q, none⟩) hbl').trans hyc
              have HB3 := Lib.hid (below_next HBW.out hb3)
              clear hb3 ex eb hyc
              go_wp2
              go_ret2
              refine ⟨?_, HB3.out⟩
              have : wb = false := by
                rw [HWB.out]
                cases hh : (pagesL (qOut xs g) T.D T.E 16).isEmpty
                · rfl
                · have := pages_out.1 hh p hp16 (by rw [HFF.out]; omega)
                  rw [HFF.out, HY.out, HYG.out] at this; cases this
              rw [this]; rfl
          · have hge : decide ((n : Int) ≤ (q : Int)) = true := by simp; omega
            have HGE := Lib.hid hge
            go_wp2_with fail
            refine wp_region_ext (by kernel_rfl) (by kernel_rfl) ?_
            repeat (go_big_quiet_step ((go_at_call 42; refine calls_ext (l4Get_at T p q fw _ (HRW.out.keep (Subtype.property _)) HG.out hp16 HE0.out))))
            refine wpQuiet_nil ?_
            rintro w3 ⟨⟨w4, hb3⟩, rfl⟩
            have HB3 := Lib.hid (below_next HBW.out hb3)
            clear hb3 ex eb
            go_wp2
            go_ret2
            refine ⟨?_, HB3.out⟩
            have : wb = false := by
              rw [HWB.out]
              cases hh : (pagesL (qOut xs g) T.D T.E 16).isEmpty
              · rfl
              · have := pages_out.1 hh p hp16 (by rw [HFF.out]; omega)
                rw [HFF.out] at this
                have h9 := hout.out _ this
                rw [HGE.out] at h9; cases h9
            rw [this]; rfl
        · have HW1 : Hid (wb = true) := by
            show wb = true
            rw [HWB.out, pages_out]
            intro p hp hf
            obtain ⟨j, hj⟩ := List.getElem?_of_mem (mem_pages hp hf)
            rw [← HPS.out] at hj
            have := HT.out j _ (by have := (List.getElem?_eq_some_iff.1 hj).1; omega) hj
            rwa [Int.toNat_natCast] at this
          go_wp2
          go_ret2
          exact ⟨by rw [HW1.out]; rfl, HBW.out⟩
end Go.Proofs.Ytaaocnfbbajphaa
