/- Contracts for the laws of tables: vEntries, vTables where both are alike. Lengths at most 2^20. -/
import Derived.Test.YtaaocnfbbajphaaVi
import Derived.Test.YtaaocnfbbajphaaDa4
import Derived.Deep.RegionLaw
namespace Go.Proofs.Ytaaocnfbbajphaa
open Go.RowKit
set_option linter.unusedVariables false
set_option linter.unusedSimpArgs false
attribute [local go_sem ↓] Go.wp_at_zero Go.wp_at_succ

set_option maxHeartbeats 1000000 in
theorem vEntries_same (A A' : Option Addr) (n c c' : Nat) (xs : List REntry) (w : World) (hr : Rd w 2 A n (J cEntry xs)) (hr' : Rd w 2 A' n (J cEntry xs)) (hn : n ≤ 1048576) :
    Calls Try.prog 44 #[.slice A n c, .slice A' n c'] w fun e w' => e = .returned (.bool true) ∧ Below w.heap.size w w' := by
  have hnb : ((n : Int) != (n : Int)) = false := by simp
  go_enter Try.func44, Try.ntmps44
  go_wp2
  go_loopw [5] (fun i wr => ∃ k : Nat, k ≤ n ∧ i = .int .i64 k ∧ Below w.heap.size w wr) (fun i _ => n - (intOf i).toNat)
  case atStart => exact ⟨0, Nat.zero_le _, rfl, Below.refl _ _⟩
  case round =>
    obtain ⟨k, hk, rfl, hB⟩ := hrel
    clear hnb
    by_cases hlt : k < n
    · obtain ⟨b, o, x, rfl, hbl, hxk, hc0, hc1⟩ := atEntry (hr.keep hB) hlt
      obtain ⟨b', o', y, rfl, hbl', hyk, hc0', hc1'⟩ := atEntry (hr'.keep hB) hlt
      obtain rfl : x = y := Option.some.inj (hxk.out.symm.trans hyk.out)
      have h0 : (0 : Int) ≤ (k : Int) := by omega
      have h1 : (k : Int) < (n : Int) := by omega
      go_wp2
      go_quiet (fail)
      go_wp2
      go_roundw
      case rel => exact ⟨k + 1, by omega, by go_num, below_drewN hB _⟩
      case measure => simp [intOf]; omega
    · go_wp2
      go_ret
      exact ⟨rfl, hB⟩
theorem leaf_same {L L' : List Leaf} (h : L'.map Leaf.es = L.map Leaf.es) {k : Nat} {l l' : Leaf} (hl : L[k]? = some l) (hl' : L'[k]? = some l') : l'.es = l.es := by
  have e1 : (L.map Leaf.es)[k]? = some l.es := by rw [List.getElem?_map, hl]; rfl
  have e2 : (L'.map Leaf.es)[k]? = some l'.es := by rw [List.getElem?_map, hl']; rfl
  rw [h, e1] at e2
  exact (Option.some.inj e2).symm
set_option maxRecDepth 100000 in
set_option maxHeartbeats 4000000 in
theorem vTables_same (T T' : Tab) (w : World) (hr : RdT w T) (hr' : RdT w T') (B : Bd T) (hD : T'.D = T.D) (hE : T'.E = T.E) :
    Calls Try.prog 9 #[tabV T, tabV T'] w fun e w' => e = .returned (.bool true) ∧ Below w.heap.size w w' := by
  obtain ⟨Ad, cd, D, Al, cl, L⟩ := T
  obtain ⟨Ad', cd', D', Al', cl', L'⟩ := T'
  dsimp only at hD
  subst hD
  obtain ⟨n, hn⟩ : ∃ n, n = L.length := ⟨_, rfl⟩
  have hn' : n = L'.length := by
    have h1 : (L'.map Leaf.es).length = (L.map Leaf.es).length := congrArg List.length hE
    rw [List.length_map, List.length_map] at h1
    omega
  have hBd : D'.length ≤ 1048576 := B.d
  have hn6 : n ≤ 1048576 := by have : L.length ≤ 1048576 := B.n; omega
  have HBl := Lib.hid (show ∀ l ∈ L, l.es.length ≤ 1048576 from B.l)
  have HE := Lib.hid (show L'.map Leaf.es = L.map Leaf.es from hE)
  obtain ⟨w1, hw1⟩ : ∃ w1, w1 = (w.alloc (.cells #[.slice Ad D'.length cd, .slice Al n cl] 27)).alloc (.cells #[.slice Ad' D'.length cd', .slice Al' n cl'] 27) := ⟨_, rfl⟩
  obtain ⟨g, hg⟩ : ∃ g, g = w.heap.size := ⟨_, rfl⟩
  have HB := Lib.hid (show Below w.heap.size w w1 by rw [hw1]; exact below_next (below_alloc w _) (below_alloc _ _))
  have HX := Lib.hid (show Box w1 g 27 #[.slice Ad D'.length cd, .slice Al n cl] by rw [hw1, hg]; exact (Box.new w _ _).keep (below_alloc _ _))
  have HY := Lib.hid (show Box w1 (g + 1) 27 #[.slice Ad' D'.length cd', .slice Al' n cl'] by
    rw [hw1, hg]
    have := Box.new (w.alloc (.cells #[.slice Ad D'.length cd, .slice Al n cl] 27)) 27 #[.slice Ad' D'.length cd', .slice Al' n cl']
    rwa [size_alloc] at this)
  have R1 := Lib.hid (hr.keep HB.out)
  have R2 := Lib.hid (hr'.keep HB.out)
  have HN := Lib.hid hn
  have HN' := Lib.hid hn'
  show Calls Try.prog 9 #[.agg #[.slice Ad D'.length cd, .slice Al L.length cl], .agg #[.slice Ad' D'.length cd', .slice Al' L'.length cl']] w _
  rw [← hn, ← hn']
  clear hr hr' hE B hn hn'
  go_enter Try.func9, Try.ntmps9
  go_upto_region 1 with (fail)
  rw [← hw1, ← hg]
  clear hw1 hg
  have C := HX.out.cell
  have D := HY.out.cell
  go_wp2_with fail
  refine (vInts_same Ad Ad' D'.length cd cd' D' _ R1.out.d R2.out.d hBd).mono ?_
  rintro e w2 ⟨rfl, hb2⟩
  have HX2 := Lib.hid (HX.out.keep hb2)
  have HY2 := Lib.hid (HY.out.keep hb2)
  have S1 := Lib.hid (R1.out.keep hb2)
  have S2 := Lib.hid (R2.out.keep hb2)
  have HB2 := Lib.hid (below_next HB.out hb2)
  clear C D HX HY hb2 R1 R2 HB
  have C := HX2.out.cell
  have D := HY2.out.cell
  have hnb : ((n : Int) != (n : Int)) = false := by simp
  go_wp2
  clear C D hnb
  go_loopw [5] (fun i wr => ∃ k : Nat, k ≤ n ∧ i = .int .i64 k ∧ Hid (Below w2.heap.size w2 wr)) (fun i _ => n - (intOf i).toNat)
  case atStart => exact ⟨0, Nat.zero_le _, rfl, Lib.hid (Below.refl _ _)⟩
  case round =>
    obtain ⟨k, hk, rfl, HBr⟩ := hrel
    by_cases hlt : k < n
    · obtain ⟨l, hl⟩ : ∃ l, L[k]? = some l := ⟨_, List.getElem?_eq_getElem (by have := HN.out; omega)⟩
      obtain ⟨l', hl'⟩ : ∃ l', L'[k]? = some l' := ⟨_, List.getElem?_eq_getElem (by have := HN'.out; omega)⟩
      have hes := leaf_same HE.out hl hl'
      have hb3 := below_next HBr.out (Below.drew (Below.refl wr.heap.size wr))
      have Q1 := S1.out.keep hb3
      have Q2 := S2.out.keep hb3
      have hq1 := Q1.l k l hl
      have hq2 := Q2.l k l' hl'
      obtain ⟨b, o, hA, hbl, hc⟩ := Q1.rowAt (k := k) hl
      obtain ⟨b', o', hA', hbl', hc'⟩ := Q2.rowAt (k := k) hl'
      dsimp only at hA hA'
      subst hA hA'
      have hll := HBl.out l (List.mem_of_getElem? hl)
      obtain ⟨lA, lc, es⟩ := l
      obtain ⟨lA', lc', es'⟩ := l'
      dsimp only at hes hq1 hq2 hc hc' hll
      subst hes
      have HQ1 := Lib.hid hq1
      have HQ2 := Lib.hid hq2
      have hW := HBr.out.size
      have X3 := (HX2.out.keep HBr.out)
      have Y3 := (HY2.out.keep HBr.out)
      have C := X3.cell
      have D := Y3.cell
      have C2 := (X3.keep (Below.drew (Below.refl wr.heap.size wr))).cell
      have D2 := (Y3.keep (Below.drew (Below.refl wr.heap.size wr))).cell
      have h0 : (0 : Int) ≤ (k : Int) := by omega
      have h1 : (k : Int) < (n : Int) := by omega
      clear hl hl' hq1 hq2 Q1 Q2 X3 Y3 hb3
      go_wp2_with fail
      go_region_law ((go_simp; go_at_call 44; refine (vEntries_same lA lA' es'.length lc lc' es' _ HQ1.out HQ2.out hll).mono ?_; rintro e w5 ⟨rfl, hb5⟩; have HB5 := Lib.hid (below_next HBr.out (below_next (Below.drew (Below.refl wr.heap.size wr)) hb5)); clear hb5 C D C2 D2 hc hc'))
      all_goals
        go_wp2
        go_roundw
        case rel => exact ⟨k + 1, by omega, by go_num, HB5⟩
        case measure => simp [intOf]; omega
    · have C := (HX2.out.keep HBr.out).cell
      have D := (HY2.out.keep HBr.out).cell
      go_wp2
      go_ret
      exact ⟨rfl, below_next HB2.out HBr.out⟩
end Go.Proofs.Ytaaocnfbbajphaa
