/- Contracts of l4Good, IsTable and l4Page in the reference. Lengths at most 2^20. -/
import Derived.Test.YtaaocnfbbajphaaTh
namespace Go.Proofs.Ytaaocnfbbajphaa
open Go.RowKit
set_option linter.unusedVariables false
set_option linter.unusedSimpArgs false

theorem memB_used {D : List Int} {k : Nat} {d : Int} {r : Bool} (hne : d ≠ -1) (h : memB (D.take k) d = r) : memB (usedL (D.take k)) d = r := by
  rw [← h]; unfold memB; congr 1; exact propext (usedL_mem hne)
theorem bad_at {L : List Leaf} {k : Nat} {x : Leaf} {Ad Al : Option Addr} {cd cl : Nat} {D : List Int} (hx : L[k]? = some x) (h : leafB x.es = false) : ¬ Good D (Tab.E ⟨Ad, cd, D, Al, cl, L⟩) := fun hg => by
  have := hg.leaf x.es (List.mem_map.2 ⟨x, List.mem_of_getElem? hx, rfl⟩)
  rw [h] at this; cases this
set_option maxRecDepth 100000 in
set_option maxHeartbeats 4000000 in
theorem l4Good_eq (T : Tab) (w : World) (hr : RdT w T) (hd : T.D.length ≤ 1048576) (hn : T.L.length ≤ 1048576) (hl2 : ∀ l ∈ T.L, l.es.length ≤ 1048576) (hcap : T.D.length ≤ T.cd ∧ T.cd ≤ maxLen) (r : Bool) (hR : goodB T.D T.E = r) :
    Calls Try.prog 50 #[tabV T] w fun e w' => e = .returned (.bool r) ∧ Below w.heap.size w w' := by
  obtain ⟨Ad, cd, D, Al, cl, L⟩ := T
  dsimp only at hd hn hl2 hR hcap
  show Calls Try.prog 50 #[.agg #[.slice Ad D.length cd, .slice Al L.length cl]] w _
  have HL2 := Lib.hid (show ∀ l ∈ L, l.es.length ≤ 4503599627370496 from fun l hl => by have := hl2 l hl; omega)
  have HR := Lib.hid hR
  have HRD := Lib.hid hr
  clear hl2 hR hr
  by_cases h4 : D.length = 4
  · obtain ⟨b, o, rfl, hbl, hcd⟩ := HRD.out.dirs h4
    have HD := Lib.hid h4
    rw [h4] at hcap
    have HCD := Lib.hid (show (4 : Int) ≤ (cd : Int) by omega)
    have hrd := HRD.out.d
    dsimp only at hrd
    have hbx := below_alloc w (.cells #[.slice (some ⟨b, o, none⟩) 4 cd, .slice Al L.length cl] 27)
    have B0 := Box.new w 27 #[.slice (some ⟨b, o, none⟩) 4 cd, .slice Al L.length cl]
    rw [h4] at hrd ⊢
    have HBX := Lib.hid hbx
    have HB0 := Lib.hid B0
    clear hd h4 hbx B0
    by_cases hn4 : L.length ≤ 4
    · have hm1 : IntKind.i64.wrap ((L.length : Int) - 1) = (L.length : Int) - 1 := IntWalk.i64_in _ (by omega)
      have HM1 := Lib.hid hm1
      clear hm1
      go_enter Try.func50, Try.ntmps50
      go_wp2
      go_loopw [3, 4] (fun u i wr => ∃ (k n : Nat), k ≤ 4 ∧ i = .int .i64 k ∧ u = .int .i64 n ∧ n ≤ 4 ∧ Hid (n = (usedL (D.take k)).length) ∧ Hid (DirsTo D L.length k) ∧ Hid (Below w.heap.size w wr) ∧ Hid (Box wr w.heap.size 27 #[.slice (some ⟨b, o, none⟩) 4 cd, .slice Al L.length cl])) (fun _ i _ => 4 - (intOf i).toNat)
      case atStart => exact ⟨0, 0, Nat.zero_le _, rfl, rfl, by omega, by rfl, DirsTo.zero _ _, HBX, HB0⟩
      case round =>
        obtain ⟨k, n, hk, rfl, rfl, hnn, hnu, HDT, HB, HBB⟩ := hrel
        have C1 := HBB.out.cell
        by_cases hlt : k < 4
        · obtain ⟨d, hdk⟩ : ∃ d, D[k]? = some d := ⟨_, List.getElem?_eq_getElem (by have := HD.out; omega)⟩
          have hblr : b < wr.heap.size := Nat.lt_of_lt_of_le hbl HB.out.size
          have hc : wr.cell? ⟨b, o + k, none⟩ = some (.int .i64 d) := (HB.out.cell (p := ⟨b, o + k, none⟩) hbl).trans (hcd.out k d hdk)
          have HDK := Lib.hid hdk
          clear hdk
          by_cases hdn : d = -1
          · subst hdn
            go_wp2
            go_roundw
            case rel => exact ⟨k + 1, n, by omega, by go_num, rfl, hnn, by rw [usedL_skip HDK.out]; exact hnu.out, HDT.out.skip HDK.out, HB, HBB⟩
            case measure => simp [intOf]; omega
          · have hdb : (d == -1) = false := by simp [hdn]
            have HDN := Lib.hid hdn
            clear hdn
            have hk0 : (0 : Int) ≤ (k : Int) := by omega
            have hk1 : (k : Int) < 4 := by omega
            have hk2 : (k : Int) ≤ 4 := by omega
            have hcap : (4 : Int) ≤ (cd : Int) := HCD.out
            have ex : ∀ q : Ext wr, q.1.cell? ⟨b, o + k, none⟩ = some (.int .i64 d) := fun q => (Ext.cell b hblr q _).trans hc
            have eb : ∀ (q : Ext wr) (i : Nat), q.1.cell? ⟨w.heap.size, i, none⟩ = #[.slice (some ⟨b, o, none⟩) 4 cd, .slice Al L.length cl][i]? := Ext.box HBB.out
            have HRK := Lib.hid ((hrd.keep HB.out).take_ (Nat.le_of_lt hlt))
            cases hin : inB d 0 ((L.length : Int) - 1)
            · have HIN := Lib.hid hin
              clear hin
              go_wp2_with fail
              have hm1 := HM1.out
              clear C1
              refine wp_region_ext (by kernel_rfl) (by kernel_rfl) ?_
              repeat (go_big_quiet_step ((go_at_call 41; refine calls_ext_same (l1In_eq HIN.out _))))
              refine wpQuiet_nil ?_
              rintro _ ⟨⟨w1, hb1⟩, rfl⟩
              go_wp2
              go_ret
              refine ⟨ret_bool ?_, below_next HB.out hb1⟩
              rw [← HR.out]
              exact (goodB_false fun hg => DirsTo.out hlt HDK.out HDN.out HIN.out (by have := hg.dirs; rwa [Tab.E_len] at this)).symm
            · have HIN := Lib.hid hin
              clear hin
              cases hm : memB (D.take k) d
              all_goals have HM := Lib.hid hm
              all_goals clear hm
              all_goals
                go_wp2_with fail
                have hm1 := HM1.out
                clear C1
                refine wp_region_ext (by kernel_rfl) (by kernel_rfl) ?_
                repeat (go_big_quiet_step ((first | (go_at_call 41; refine calls_ext_same (l1In_eq HIN.out _)) | (go_at_call 77; refine calls_ext_same (l1Has_eq _ _ _ _ _ _ (HRK.out.keep (Subtype.property _)) (by omega) _ HM.out)))))
                refine wpQuiet_nil ?_
                rintro _ ⟨⟨w1, hb1⟩, rfl⟩
                clear hm1
                have HB1 := Lib.hid (below_next HB.out hb1)
                have HBB1 := Lib.hid (HBB.out.keep hb1)
                clear hb1 ex eb
                go_wp2
              · go_roundw
                case rel => exact ⟨k + 1, n + 1, by omega, by go_num, by go_num, by have := usedL_take_le D k; have := hnu.out; omega, by rw [usedL_snoc HDK.out HDN.out]; show _ = _; simp [hnu.out], HDT.out.snoc HDK.out HIN.out (memB_used HDN.out HM.out), HB1, HBB1⟩
                case measure => simp [intOf]; omega
              · go_ret
                refine ⟨ret_bool ?_, HB1.out⟩
                rw [← HR.out]
                exact (goodB_false fun hg => DirsTo.twice hlt HDK.out HDN.out (memB_used HDN.out HM.out) (by have := hg.dirs; rwa [Tab.E_len] at this)).symm
        · have hu := hnu.out
          have hdt := HDT.out
          have hk4 : k = 4 := by omega
          rw [hk4] at hdt
          rw [List.take_of_length_le (by have := HD.out; omega)] at hu
          have HU := Lib.hid hu
          have HDT4 := Lib.hid hdt
          clear hu hk4 hdt
          have hwr : w.heap.size < wr.heap.size := HBB.out.lt
          go_wp2
          go_loop [5] (fun i => ∃ k : Nat, k ≤ L.length ∧ i = .int .i64 k ∧ Hid (∀ (j : Nat) (x : Leaf), j < k → L[j]? = some x → leafB x.es = true)) (fun i => L.length - (intOf i).toNat)
          case atStart => exact ⟨0, Nat.zero_le _, rfl, fun j x hj => by omega⟩
          case round =>
            obtain ⟨k, hk, rfl, HT⟩ := hrel
            by_cases hlt : k < L.length
            · obtain ⟨x, hx⟩ : ∃ x, L[k]? = some x := ⟨_, List.getElem?_eq_getElem hlt⟩
              obtain ⟨b', o', rfl, hbl', hc⟩ := (HRD.out.keep (HB.out)).rowAt hx
              have h1 := (HRD.out.l k x hx).keep HB.out
              have h2 := HL2.out x (List.mem_of_getElem? hx)
              have HX := Lib.hid hx
              clear hx
              cases hlf : leafB x.es
              all_goals have HLF := Lib.hid hlf
              all_goals clear hlf
              · go_wp2_with fail
                refine (l4Leaf_eq _ _ _ x.es _ h1 h2 _ HLF.out).mono ?_
                rintro e w1 ⟨rfl, rfl⟩
                go_wp2
                go_ret
                refine ⟨ret_bool ?_, HB.out⟩
                rw [← HR.out]
                exact (goodB_false (bad_at HX.out HLF.out)).symm
              · go_wp2_with fail
                refine (l4Leaf_eq _ _ _ x.es _ h1 h2 _ HLF.out).mono ?_
                rintro e w1 ⟨rfl, rfl⟩
                go_wp2
                go_round
                case rel =>
                  refine ⟨k + 1, by omega, by go_num, fun j y hj hy => ?_⟩
                  by_cases hjk : j = k
                  · subst hjk
                    rw [HX.out] at hy
                    rw [← Option.some.inj hy]; exact HLF.out
                  · exact HT.out j y (by omega) hy
                case measure => simp [intOf]; omega
            · have HG : Hid (∀ es ∈ Tab.E ⟨some ⟨b, o, none⟩, cd, D, Al, cl, L⟩, leafB es = true) := by
                intro es hes
                obtain ⟨x, hx, rfl⟩ := List.mem_map.1 hes
                obtain ⟨j, hj⟩ := List.getElem?_of_mem hx
                exact HT.out j x (by have : j < L.length := (List.getElem?_eq_some_iff.1 hj).1; omega) hj
              go_wp2
              go_ret
              refine ⟨ret_bool ?_, HB.out⟩
              rw [← HR.out]
              by_cases hnl : n = L.length
              · subst hnl
                rw [goodB_true ⟨HD.out, HG.out, by rw [Tab.E_len]; exact HDT4.out, by rw [Tab.E_len, ← HU.out]⟩]
                simp
              · rw [goodB_false fun hg => hnl (by have := hg.used; rw [Tab.E_len, ← HU.out] at this; exact this)]
                simp; omega
    · have h5 : (4 : Int) < (L.length : Int) := by omega
      have HN4 := Lib.hid hn4
      clear hn4
      go_enter Try.func50, Try.ntmps50
      go_wp2
      go_ret
      exact ⟨ret_bool (by rw [← HR.out]; exact (goodB_false fun hg => HN4.out (by have := hg.len4; rwa [Tab.E_len] at this)).symm), below_alloc _ _⟩
  · have h9 : ((D.length : Int) != 4) = true := by simp; omega
    have HN := Lib.hid h4
    clear h4
    go_enter Try.func50, Try.ntmps50
    go_wp2
    go_ret
    exact ⟨ret_bool (by rw [← HR.out]; exact (goodB_false fun hg => HN.out hg.len).symm), below_alloc _ _⟩
end Go.Proofs.Ytaaocnfbbajphaa
