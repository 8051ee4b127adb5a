/- Contracts of IsTable in the program and of l4Good in the reference. Lengths at most 2^20. -/
import Derived.Test.YtaaocnfbbajphaaTg
import Derived.Deep.RegionWith
namespace Go.Proofs.Ytaaocnfbbajphaa
open Go.RowKit
set_option linter.unusedVariables false
set_option linter.unusedSimpArgs false

def badLeaf (l : Leaf) : Bool := !leafB l.es
set_option maxHeartbeats 400000 in
theorem isTable1_any (l : Leaf) (w : World) (hr : Rd w 2 l.A l.es.length (J cEntry l.es)) (hn : l.es.length ≤ 4503599627370496) (b : Bool) (hb : badLeaf l = b) :
    Calls Try.prog 46 #[.slice l.A l.es.length l.c] w fun e w' => e = .returned (.bool b) ∧ Below w.heap.size w w' := by
  cases h : leafB l.es
  all_goals have H := Lib.hid h
  all_goals obtain rfl := (show (!leafB l.es) = b from hb)
  all_goals rw [h]
  all_goals clear h
  all_goals
    go_enter Try.func46, Try.ntmps46
    go_wp2_with fail
    refine (isLeaf_eq _ _ _ l.es _ hr hn _ H.out).mono ?_
    rintro e w1 ⟨rfl, hb⟩
    go_wp2
    go_ret
    exact ⟨rfl, hb⟩

set_option maxHeartbeats 2000000 in
theorem indexFuncRow (A : Option Addr) (c : Nat) (ls : List Leaf) (w : World) (hr : Rd w 1 A ls.length (ls.map Leaf.cell)) (hl : ∀ (j : Nat) (x : Leaf), ls[j]? = some x → Rd w 2 x.A x.es.length (J cEntry x.es)) (hn : ls.length ≤ 4503599627370496) (hl2 : ∀ l ∈ ls, l.es.length ≤ 4503599627370496) :
    Calls Try.prog 80 #[.slice A ls.length c, .func (.func 46) #[] #[]] w fun e w' => ∃ r : Int, e = .returned (.int .i64 r) ∧ Hid ((r = -1 ∧ ls.any badLeaf = false) ∨ (0 ≤ r ∧ ls.any badLeaf = true)) ∧ Below w.heap.size w w' := by
  have HL := Lib.hid hl
  have HL2 := Lib.hid hl2
  clear hl hl2
  go_enter Try.func80, Try.ntmps80
  go_wp2
  go_loopw [5, 8] (fun j i wr => ∃ k : Nat, k ≤ ls.length ∧ i = .int .i64 k ∧ Hid ((ls.take k).any badLeaf = false) ∧ Below w.heap.size w wr) (fun _ i _ => ls.length - (intOf i).toNat)
  case atStart => exact ⟨0, Nat.zero_le _, rfl, by rfl, Below.refl _ _⟩
  case round =>
    obtain ⟨k, hk, rfl, ht, hB⟩ := hrel
    by_cases hlt : k < ls.length
    · obtain ⟨x, hx⟩ : ∃ x, ls[k]? = some x := ⟨_, List.getElem?_eq_getElem hlt⟩
      obtain ⟨b, o, rfl, hbl, hc⟩ := (hr.keep hB).cellAt (k := k) (u := Leaf.cell x) (by rw [List.getElem?_map, hx]; rfl)
      unfold Leaf.cell at hc
      have h1 := (HL.out k x hx).keep hB
      have h2 := HL2.out x (List.mem_of_getElem? hx)
      have HX := Lib.hid hx
      clear hx
      cases hpx : badLeaf x
      all_goals have HP := Lib.hid hpx
      all_goals clear hpx
      · go_wp2_with fail
        refine (isTable1_any x _ h1 h2 _ HP.out).mono ?_
        rintro e w1 ⟨rfl, hb1⟩
        go_wp2
        go_roundw
        case rel => exact ⟨k + 1, by omega, by go_num, any_snocA ht.out HX.out HP.out, below_next hB hb1⟩
        case measure => simp [intOf]; omega
      · go_wp2_with fail
        refine (isTable1_any x _ h1 h2 _ HP.out).mono ?_
        rintro e w1 ⟨rfl, hb1⟩
        go_wp2
        go_ret
        exact ⟨_, rfl, .inr ⟨by omega, List.any_eq_true.2 ⟨x, List.mem_of_getElem? HX.out, HP.out⟩⟩, below_next hB hb1⟩
    · have h := ht.out
      rw [List.take_of_length_le (by omega)] at h
      have H := Lib.hid h
      clear h
      go_wp2
      go_ret
      exact ⟨_, rfl, .inl ⟨rfl, H.out⟩, hB⟩
set_option maxHeartbeats 1000000 in
theorem containsFuncRow (A : Option Addr) (c : Nat) (ls : List Leaf) (w : World) (hr : Rd w 1 A ls.length (ls.map Leaf.cell)) (hl : ∀ (j : Nat) (x : Leaf), ls[j]? = some x → Rd w 2 x.A x.es.length (J cEntry x.es)) (hn : ls.length ≤ 4503599627370496) (hl2 : ∀ l ∈ ls, l.es.length ≤ 4503599627370496) (r : Bool) (hR : ls.any badLeaf = r) :
    Calls Try.prog 45 #[.slice A ls.length c, .func (.func 46) #[] #[]] w fun e w' => e = .returned (.bool r) ∧ Below w.heap.size w w' := by
  have HR := Lib.hid hR
  clear hR
  go_enter Try.func45, Try.ntmps45
  go_wp2_with fail
  refine (indexFuncRow A c ls _ hr hl hn hl2).mono ?_
  rintro e w1 ⟨q, rfl, hq, hb1⟩
  rcases hq.out with ⟨rfl, h1⟩ | ⟨h6, h5⟩
  · rw [HR.out] at h1
    subst h1
    go_wp2
    go_ret
    exact ⟨rfl, hb1⟩
  · rw [HR.out] at h5
    subst h5
    go_wp2
    go_ret
    exact ⟨rfl, hb1⟩

theorem any_bad {T : Tab} : T.L.any badLeaf = false ↔ ∀ es ∈ T.E, leafB es = true := by
  simp only [List.any_eq_false, Tab.E, List.mem_map]
  constructor
  · rintro h _ ⟨l, hl, rfl⟩
    have := h l hl
    simpa [badLeaf] using this
  · intro h l hl
    have := h l.es ⟨l, hl, rfl⟩
    simp [badLeaf, this]
theorem DirsTo.zero (D : List Int) (n : Nat) : DirsTo D n 0 := fun j d h => by omega
theorem DirsTo.skip {D : List Int} {n k : Nat} (h : DirsTo D n k) (hd : D[k]? = some (-1)) : DirsTo D n (k + 1) := by
  intro j d hj hd2 hne
  by_cases hjk : j = k
  · subst hjk
    rw [hd] at hd2
    exact absurd (Option.some.inj hd2).symm hne
  · exact h j d (by omega) hd2 hne
theorem DirsTo.snoc {D : List Int} {n k : Nat} {d : Int} (h : DirsTo D n k) (hd : D[k]? = some d) (hin : inB d 0 ((n : Int) - 1) = true) (hm : memB (usedL (D.take k)) d = false) : DirsTo D n (k + 1) := by
  obtain ⟨h0, h1⟩ := inB_iff.1 hin
  intro j d' hj hd2 hne
  by_cases hjk : j = k
  · subst hjk
    rw [hd] at hd2
    obtain rfl := Option.some.inj hd2
    exact ⟨h0, by omega, fun hx => memB_no.1 hm ((usedL_mem (by omega)).2 hx)⟩
  · exact h j d' (by omega) hd2 hne
theorem DirsTo.out {D : List Int} {n k : Nat} {d : Int} (hk : k < 4) (hd : D[k]? = some d) (hne : d ≠ -1) (hin : inB d 0 ((n : Int) - 1) = false) : ¬ DirsTo D n 4 := by
  intro h
  obtain ⟨h0, h1, _⟩ := h k d hk hd hne
  rw [inB_iff.2 ⟨h0, by omega⟩] at hin; cases hin
theorem DirsTo.twice {D : List Int} {n k : Nat} {d : Int} (hk : k < 4) (hd : D[k]? = some d) (hne : d ≠ -1) (hm : memB (usedL (D.take k)) d = true) : ¬ DirsTo D n 4 := by
  intro h
  exact (h k d hk hd hne).2.2 ((usedL_mem hne).1 (memB_iff.1 hm))
theorem usedL_skip {D : List Int} {k : Nat} (hd : D[k]? = some (-1)) : usedL (D.take (k + 1)) = usedL (D.take k) := by
  rw [take_snoc hd, usedL_append]; simp [usedL]
theorem usedL_snoc {D : List Int} {k : Nat} {d : Int} (hd : D[k]? = some d) (hne : d ≠ -1) : usedL (D.take (k + 1)) = usedL (D.take k) ++ [d] := by
  rw [take_snoc hd, usedL_append]; simp [usedL, hne]
theorem own_alloc {w : World} {B : Nat} {t : Thing} (h : Own w B t) (o : Obj) : Own (w.alloc o) B t := World.ownsRow.alloc h o
theorem usedL_take_le (D : List Int) (k : Nat) : (usedL (D.take k)).length ≤ k := by
  have := usedL_len_le (D.take k)
  rw [List.length_take] at this; omega

theorem RdT.dirs {w : World} {Ad Al : Option Addr} {cd cl : Nat} {D : List Int} {L : List Leaf} (h : RdT w ⟨Ad, cd, D, Al, cl, L⟩) (h4 : D.length = 4) :
    ∃ b o, Ad = some ⟨b, o, none⟩ ∧ b < w.heap.size ∧ Hid (∀ (k : Nat) (d : Int), D[k]? = some d → w.cell? ⟨b, o + k, none⟩ = some (.int .i64 d)) := by
  have h0 : D[0]? = some (D[0]'(by omega)) := List.getElem?_eq_getElem (by omega)
  obtain ⟨b, o, hA, hb, _⟩ := h.dirAt h0
  refine ⟨b, o, hA, hb, fun k d hd => ?_⟩
  obtain ⟨b', o', hA', _, hc⟩ := h.dirAt hd
  simp only at hA hA'
  rw [hA] at hA'
  simp only [Option.some.injEq, Addr.mk.injEq, and_true] at hA'
  obtain ⟨rfl, rfl⟩ := hA'
  exact hc
set_option maxRecDepth 100000 in
set_option maxHeartbeats 4000000 in
theorem i_IsTable_eq (T : Tab) (w : World) (hr : RdT w T) (hd : T.D.length ≤ 1048576) (hn : T.L.length ≤ 1048576) (hl2 : ∀ l ∈ T.L, l.es.length ≤ 1048576) (r : Bool) (hR : goodB T.D T.E = r) :
    Calls Try.prog 10 #[tabV T] w fun e w' => e = .returned (.bool r) ∧ Below w.heap.size w w' := by
  obtain ⟨Ad, cd, D, Al, cl, L⟩ := T
  dsimp only at hd hn hl2 hR
  show Calls Try.prog 10 #[.agg #[.slice Ad D.length cd, .slice Al L.length cl]] w _
  have HL2 := Lib.hid (show ∀ l ∈ L, l.es.length ≤ 4503599627370496 from fun l hl => by have := hl2 l hl; omega)
  have HR := Lib.hid hR
  have HRD := Lib.hid hr
  clear hl2 hR hr
  by_cases h4 : D.length = 4
  · obtain ⟨b, o, rfl, hbl, hcd⟩ := HRD.out.dirs h4
    have HD := Lib.hid h4
    have B0 := Box.new w 27 #[.slice (some ⟨b, o, none⟩) 4 cd, .slice Al L.length cl]
    have hbx := below_alloc w (.cells #[.slice (some ⟨b, o, none⟩) 4 cd, .slice Al L.length cl] 27)
    have HBX := Lib.hid hbx
    have HB0 := Lib.hid B0
    clear B0 hd hbx
    rw [h4]
    clear h4
    cases hb : L.any badLeaf
    all_goals have HX := Lib.hid hb
    all_goals clear hb
    · have HG : Hid (∀ es ∈ Tab.E ⟨some ⟨b, o, none⟩, cd, D, Al, cl, L⟩, leafB es = true) := any_bad.1 HX.out
      have HM1 := Lib.hid (show IntKind.i64.wrap ((L.length : Int) - 1) = (L.length : Int) - 1 from IntWalk.i64_in _ (by omega))
      obtain ⟨i0, hi, hz0, hz1, hz2⟩ := info_parts Try.info3
      have HI := Lib.hid hi
      have HZ0 := Lib.hid hz0
      have HZ1 := Lib.hid hz1
      have HZ2 := Lib.hid hz2
      clear hi hz0 hz1 hz2
      go_enter Try.func10, Try.ntmps10
      go_wp2_with fail
      refine (containsFuncRow _ _ L _ (HRD.out.r.keep HBX.out) (fun j x hx => (HRD.out.l j x hx).keep HBX.out) (by omega) HL2.out _ HX.out).mono ?_
      rintro e w1 ⟨rfl, hb1⟩
      have C0 := (HB0.out.keep hb1).cell
      have HB1 := Lib.hid (below_next HBX.out hb1)
      have HBox := Lib.hid (HB0.out.keep hb1)
      have hs1 : w.heap.size < w1.heap.size := by have := hb1.size; simp at this; omega
      clear hb1
      go_wp2
      go_loopw [3, 5, 19] (fun u d i wr => ∃ (k : Nat) (A : Option Addr) (n c : Nat), k ≤ 4 ∧ i = .int .i64 k ∧ u = .slice A n c ∧ n ≤ 4 ∧ Hid (n = (usedL (D.take k)).length) ∧ Hid (Own wr (w.heap.size + 1) (ti A n c (usedL (D.take k)))) ∧ Hid (DirsTo D L.length k) ∧ Hid (Below w.heap.size w wr) ∧ Hid (Box wr w.heap.size 27 #[.slice (some ⟨b, o, none⟩) 4 cd, .slice Al L.length cl]) ∧ w.heap.size < wr.heap.size) (fun _ _ i _ => 4 - (intOf i).toNat)
      case atStart => exact ⟨0, _, 0, 0, Nat.zero_le _, rfl, rfl, by omega, by rfl, own_less (own_new0 w1 #[] rfl) hs1, DirsTo.zero _ _, below_next HB1.out (below_alloc _ _), HBox.out.alloc _, by simp; omega⟩
      case round =>
        obtain ⟨k, A, n, c, hk, rfl, rfl, hn4, hnu, HO, HDT, HB, HBB, hsz⟩ := hrel
        have C1 := HBB.out.cell
        by_cases hlt : k < 4
        · obtain ⟨d, hdk⟩ : ∃ d, D[k]? = some d := ⟨_, List.getElem?_eq_getElem (by have := HD.out; omega)⟩
          have hc := (HB.out.cell (p := ⟨b, o + k, none⟩) hbl).trans (hcd.out k d hdk)
          have HDK := Lib.hid hdk
          clear hdk
          by_cases hdn : d = -1
          · subst hdn
            go_wp2
            go_roundw
            case rel => exact ⟨k + 1, A, n, c, by omega, by go_num, rfl, hn4, by rw [usedL_skip HDK.out]; exact hnu.out, by rw [usedL_skip HDK.out]; exact HO.out, HDT.out.skip HDK.out, HB, HBB, hsz⟩
            case measure => simp [intOf]; omega
          · have hdb : (d == -1) = false := by simp [hdn]
            have HDN := Lib.hid hdn
            clear hdn
            cases hin : inB d 0 ((L.length : Int) - 1)
            · have HIN := Lib.hid hin
              clear hin
              go_wp2_with fail
              refine (inside_eq HIN.out _).mono ?_
              rintro e w2 ⟨rfl, rfl⟩
              go_wp2
              go_ret
              refine ⟨ret_bool ?_, HB.out⟩
              rw [← HR.out]
              exact (goodB_false fun hg => DirsTo.out hlt HDK.out HDN.out HIN.out (by have := hg.dirs; rwa [Tab.E_len] at this)).symm
            · have HIN := Lib.hid hin
              clear hin
              cases hm : memB (usedL (D.take k)) d
              · have HM := Lib.hid hm
                clear hm
                go_wp2_with fail
                refine (inside_eq HIN.out _).mono ?_
                rintro e w2 ⟨rfl, rfl⟩
                go_wp2_with fail
                refine (contains_eq _ _ _ _ _ _ HO.out.rd (by show n ≤ _; omega) _ HM.out).mono ?_
                rintro e w2 ⟨rfl, rfl⟩
                go_wp2_with (at_builtin; refine wpList_app _ rfl _ _ 24 rfl (w.heap.size + 1) 3 i0 (.int .i64 0) 1 8 Try.underlying24 HI.out HZ0.out HZ1.out HZ2.out rfl (by decide) _ _ _ _ rfl (World.ownsRow.alloc HO.out _) _ _ _ _ rfl (Rd.one _ _ _) (by simp [Value.oneCell']) (by unfold maxLen; omega) (by omega) (by simp; omega) ?_; intro A' c' w3 hown hgrow hat)
                have HUS : Hid (usedL (D.take (k + 1)) = usedL (D.take k) ++ [d]) := usedL_snoc HDK.out HDN.out
                have hown2 : Own w3 (w.heap.size + 1) (ti A' (n + 1) c' (usedL (D.take (k + 1)))) := by rw [HUS.out]; show w3.ownsRow _ _ _ _ _ (I _); rw [I_append]; exact hown
                have hbw : Below w.heap.size w w3 := by
                  refine (HB.out.alloc (Nat.le_of_lt hsz) _).grown hgrow (by simp; omega) fun g hg => ?_
                  have := (HO.out.lt g (by rw [ownBlock_slice]; exact hg)).1
                  omega
                have hbb : Box w3 w.heap.size 27 #[.slice (some ⟨b, o, none⟩) 4 cd, .slice Al L.length cl] := by
                  refine (HBB.out.alloc _).grown hgrow fun hg => ?_
                  have := (HO.out.lt _ (by rw [ownBlock_slice]; exact hg)).1
                  omega
                have hsz3 : w.heap.size < w3.heap.size := by have := hgrow.size; simp at this; omega
                have HN1 : Hid (n + 1 ≤ 4) := by
                  have := usedL_take_le D k
                  have := hnu.out
                  show _ ≤ _; omega
                have HO2 := Lib.hid hown2
                have HBW := Lib.hid hbw
                have HBB2 := Lib.hid hbb
                clear hown hgrow hat hown2 hbw hbb
                go_wp2
                go_roundw
                case rel => exact ⟨k + 1, A', n + 1, c', by omega, by go_num, rfl, HN1.out, by rw [HUS.out]; show _ = _; simp [hnu.out], HO2, HDT.out.snoc HDK.out HIN.out HM.out, HBW, HBB2, hsz3⟩
                case measure => simp [intOf]; omega
              · have HM := Lib.hid hm
                clear hm
                go_wp2_with fail
                refine (inside_eq HIN.out _).mono ?_
                rintro e w2 ⟨rfl, rfl⟩
                go_wp2_with fail
                refine (contains_eq _ _ _ _ _ _ HO.out.rd (by show n ≤ _; omega) _ HM.out).mono ?_
                rintro e w2 ⟨rfl, rfl⟩
                go_wp2
                go_ret
                refine ⟨ret_bool ?_, HB.out⟩
                rw [← HR.out]
                exact (goodB_false fun hg => DirsTo.twice hlt HDK.out HDN.out HM.out (by have := hg.dirs; rwa [Tab.E_len] at this)).symm
        · obtain rfl : k = 4 := by omega
          have hu := hnu.out
          rw [List.take_of_length_le (by have := HD.out; omega)] at hu
          have HU := Lib.hid hu
          clear hu
          go_wp2
          go_ret
          refine ⟨ret_bool ?_, HB.out⟩
          rw [← HR.out]
          by_cases hnl : n = L.length
          · subst hnl
            rw [goodB_true ⟨HD.out, HG.out, by rw [Tab.E_len]; exact HDT.out, by rw [Tab.E_len, ← HU.out]⟩]
            simp
          · rw [goodB_false fun hg => hnl (by have := hg.used; rw [Tab.E_len, ← HU.out] at this; exact this)]
            simp; omega
    · go_enter Try.func10, Try.ntmps10
      go_wp2_with fail
      refine (containsFuncRow _ _ L _ (HRD.out.r.keep HBX.out) (fun j x hx => (HRD.out.l j x hx).keep HBX.out) (by omega) HL2.out _ HX.out).mono ?_
      rintro e w1 ⟨rfl, hb1⟩
      go_wp2
      go_ret
      refine ⟨ret_bool ?_, below_next HBX.out hb1⟩
      rw [← HR.out]
      refine (goodB_false fun hg => ?_).symm
      have := any_bad.2 hg.leaf
      rw [HX.out] at this; cases this
  · have h9 : ((D.length : Int) != 4) = true := by simp; omega
    have HN := Lib.hid h4
    clear h4
    go_enter Try.func10, Try.ntmps10
    go_wp2
    go_ret
    exact ⟨ret_bool (by rw [← HR.out]; exact (goodB_false fun hg => HN.out hg.len).symm), below_alloc _ _⟩
end Go.Proofs.Ytaaocnfbbajphaa
