/- Contracts of newTable, l4Own, emptyTable, l4New: a table in new memory. Leaves of four entries. -/
import Derived.Test.YtaaocnfbbajphaaTx
import Derived.Deep.RegionLaw
import Derived.Deep.AppendLies
import Derived.Deep.DrawnRows
namespace Go.Proofs.Ytaaocnfbbajphaa
open Go.RowKit
set_option linter.unusedVariables false
set_option linter.unusedSimpArgs false
attribute [local go_sem ↓] Go.wp_at_zero Go.wp_at_succ

theorem Sep.drop1 {W0 w : World} {P Q : List Thing} {t : Thing} (S : Sep W0 w (P ++ t :: Q)) : Sep W0 w (P ++ Q) := by
  have hidx : ∀ (i : Nat) (s : Thing), (P ++ Q)[i]? = some s → (P ++ t :: Q)[if i < P.length then i else i + 1]? = some s := by
    intro i s hs
    by_cases hi : i < P.length
    · rw [if_pos hi, List.getElem?_append_left hi]
      rwa [List.getElem?_append_left hi] at hs
    · rw [if_neg hi, List.getElem?_append_right (by omega)]
      rw [List.getElem?_append_right (by omega)] at hs
      have : i + 1 - P.length = (i - P.length) + 1 := by omega
      rw [this, List.getElem?_cons_succ]
      exact hs
  exact ⟨S.bel, fun i s hs => S.own _ s (hidx i s hs), fun i j s u hij hs hu => S.apart _ _ s u (by split <;> split <;> omega) (hidx i s hs) (hidx j u hu)⟩
theorem news_of {W w' : World} (hb : Below W.heap.size W w') {b o : Nat} (hbl : b < W.heap.size) {xs : List Value} (h : ∀ (j : Nat) (u : Value), xs[j]? = some u → W.cell? ⟨b, o + j, none⟩ = some u) :
    ∀ (j : Nat) (u : Value), xs[j]? = some u → w'.cell? ((⟨b, o, none⟩ : Addr).add j) = some u := by
  intro j u hu
  have hadd : (⟨b, o, none⟩ : Addr).add j = ⟨b, o + j, none⟩ := by unfold Addr.add; split <;> simp_all
  rw [hadd, hb.cell (p := ⟨b, o + j, none⟩) hbl]
  exact h j u hu
theorem cEntry_one : ∀ x, ∀ u ∈ cEntry x, u.oneCell' = true := by
  intro x u hu
  simp [cEntry] at hu
  rcases hu with rfl | rfl <;> rfl
/-- behind an append onto a slice in a new block, what was there is as it was -/
theorem below_grow_new {W w1 w2 : World} {v : Value} (hb : Below W.heap.size W w1) (hg : w1.grownBy w2 v.ownBlock) (hv : ∀ k, v.ownBlock = some k → W.heap.size ≤ k) : Below W.heap.size W w2 :=
  hb.grown hg hb.size hv
theorem newLs_es {ls ls' : List Leaf} {k : Nat} {l : Leaf} {A : Option Addr} {c : Nat} (h : ls'.map Leaf.es = (ls.take k).map Leaf.es) (hl : ls[k]? = some l) : (ls' ++ [(⟨A, c, l.es⟩ : Leaf)]).map Leaf.es = (ls.take (k + 1)).map Leaf.es := by
  rw [List.map_append, h, List.take_add_one, hl, List.map_append]; rfl

/-- one leaf more, in a new block, and the slice of the leaves longer by it -/
theorem nt_step {w wr w2 w3 : World} {p0 p1 p2 bo : Thing} {Ar : Option Addr} {k cr g2 cap2 g3 cap3 : Nat} {ls' : List Leaf} {es : List REntry} {o : Obj}
    (S : Sep w wr ([p0, p1, p2, tR Ar k cr ls', bo] ++ ls'.map tL)) (hb2 : Below wr.heap.size wr w2) (hl4 : es.length = 4)
    (hown2 : w2.ownsRow wr.heap.size 67 2 (.slice (some ⟨g2, 0, none⟩) (0 + 4) cap2) (0 + 4) ([] ++ J cEntry es))
    (hg : (w2.alloc o).grownBy w3 (Value.slice Ar k cr).ownBlock) (hat : (Value.slice Ar k cr).ownBlock = some g3 ∨ g3 = (w2.alloc o).heap.size)
    (hown3 : w3.ownsRow w.heap.size 71 1 (.slice (some ⟨g3, 0, none⟩) (k + 1) cap3) (k + 1) (ls'.map Leaf.cell ++ [.slice (some ⟨g2, 0, none⟩) 4 cap2])) :
    Sep w w3 ([p0, p1, p2, tR (some ⟨g3, 0, none⟩) (k + 1) cap3 (ls' ++ [⟨some ⟨g2, 0, none⟩, cap2, es⟩]), bo] ++ (ls' ++ [(⟨some ⟨g2, 0, none⟩, cap2, es⟩ : Leaf)]).map tL) := by
  rw [ownBlock_slice] at hg hat
  have S2 := S.new hb2 (t := tL ⟨some ⟨g2, 0, none⟩, cap2, es⟩) (by
    show w2.ownsRow _ _ _ (.slice (some ⟨g2, 0, none⟩) es.length cap2) es.length (J cEntry es)
    rw [hl4]; simpa using hown2)
  have S3 := S2.below (below_alloc w2 o)
  have S4 := S3.app 3 (t' := tR (some ⟨g3, 0, none⟩) (k + 1) cap3 (ls' ++ [⟨some ⟨g2, 0, none⟩, cap2, es⟩])) rfl hg (by
    rcases hat with h | h
    · exact .inl h.symm
    · right; rw [h]; rfl) (by
    show w3.ownsRow _ _ _ _ _ ((ls' ++ [_]).map Leaf.cell)
    rw [List.map_append]
    show w3.ownsRow _ _ _ _ _ (ls'.map Leaf.cell ++ [.slice (some ⟨g2, 0, none⟩) es.length cap2])
    rw [hl4]; exact hown3)
  rw [List.map_append]
  simp only [List.cons_append, List.nil_append, List.set_cons_zero, List.set_cons_succ] at S4 ⊢
  exact S4

set_option maxRecDepth 100000 in
set_option maxHeartbeats 4000000 in
theorem newTable_any (T : Tab) (w : World) (hr : RdT w T) (B : Bd T) (h4 : ∀ l ∈ T.L, l.es.length = 4) :
    Calls Try.prog 54 #[tabV T] w fun e w' => ∃ T' : Tab, e = .returned (tabV T') ∧ T'.D = T.D ∧ T'.E = T.E ∧ Sep w w' T'.things := by
  have HH4 := Lib.hid h4
  obtain ⟨i0, hi, hz0, hz1, hz2⟩ := info_parts Try.info67
  obtain ⟨i1, hi1, hy0, hy1, hy2⟩ := info_parts Try.info71
  have HI := Lib.hid hi
  have HZ0 := Lib.hid hz0
  have HZ1 := Lib.hid hz1
  have HZ2 := Lib.hid hz2
  have HI1 := Lib.hid hi1
  have HY0 := Lib.hid hy0
  have HY1 := Lib.hid hy1
  have HY2 := Lib.hid hy2
  clear h4 hi hz0 hz1 hz2 hi1 hy0 hy1 hy2
  have hBd := B.d
  have hBn := B.n
  obtain ⟨Ad, cd, D, Al, cl, L⟩ := T
  dsimp only at hBd hBn
  have HRD := Lib.hid hr
  have hrd := hr.d
  have hrr := hr.r
  dsimp only at hrd hrr
  show Calls Try.prog 54 #[.agg #[.slice Ad D.length cd, .slice Al L.length cl]] w _
  have S0 := (Sep.start w).new (below_alloc w _) (own_bx w 27 2 #[.slice Ad D.length cd, .slice Al L.length cl] rfl)
  have S1 := S0.new (below_alloc _ _) (own_bx _ 27 2 #[.slice none 0 0, .slice none 0 0] rfl)
  simp only [List.nil_append, List.cons_append, size_alloc] at S1
  have HS1 := Lib.hid S1
  clear S0 S1
  go_enter Try.func54, Try.ntmps54
  go_wp2_with fail
  refine (copyInts_any _ _ _ D _ (hrd.sep HS1.out) hBd).mono ?_
  rintro e w1 ⟨A', c', rfl, ho, hb⟩
  have S2 := HS1.out.new hb ho
  have S3 := S2.new (below_alloc _ _) (t := tR (some ⟨w1.heap.size, 0, none⟩) 0 0 []) (World.ownsRow_made w1 #[] 0 (Nat.le_refl _) (Nat.zero_le _) rfl)
  have S4 := S3.new (below_alloc _ _) (own_bx _ 27 2 #[.slice A' D.length c', .slice (some ⟨w1.heap.size, 0, none⟩) 0 0] rfl)
  simp only [List.nil_append, List.cons_append, size_alloc] at S4
  have C0 := own_box (S4.own 0 _ rfl)
  have Z0 := own_lt (S4.own 0 _ rfl)
  have HS4 := Lib.hid S4
  clear S2 S3 S4 ho hb
  go_wp2
  go_loopw [5, 14] (fun x i wr => ∃ (k : Nat) (ls' : List Leaf) (Ar : Option Addr) (cr : Nat), ls'.length = k ∧ k ≤ L.length ∧ i = .int .i64 k ∧ Hid (ls'.map Leaf.es = (L.take k).map Leaf.es) ∧
      Hid (Sep w wr ([bx 27 2 w.heap.size [.slice Ad D.length cd, .slice Al L.length cl], bx 27 2 (w.heap.size + 1) [.slice none 0 0, .slice none 0 0], ti A' D.length c' D, tR Ar k cr ls', bx 27 2 (w1.heap.size + 1) [.slice A' D.length c', .slice Ar k cr]] ++ ls'.map tL)))
    (fun _ i _ => L.length - (intOf i).toNat)
  case atStart => exact ⟨0, [], _, 0, rfl, Nat.zero_le _, rfl, rfl, HS4⟩
  case round =>
    obtain ⟨k, ls', Ar, cr, hk', hk, rfl, he, HS⟩ := hrel
    have HK := Lib.hid hk'
    clear hk'
    by_cases hlt : k < L.length
    · obtain ⟨l, hx⟩ : ∃ l, L[k]? = some l := ⟨_, List.getElem?_eq_getElem hlt⟩
      obtain ⟨b, o, rfl, hbl, hc⟩ := (hrr.keep HS.out.bel).cellAt (k := k) (u := Leaf.cell l) (by rw [List.getElem?_map, hx]; rfl)
      unfold Leaf.cell at hc
      have hl4 : l.es.length = 4 := HH4.out l (List.mem_of_getElem? hx)
      have hle : Rd wr 2 l.A l.es.length (J cEntry l.es) := (HRD.out.l k l hx).keep HS.out.bel
      have HX := Lib.hid hx
      obtain ⟨lA, lc, es⟩ := l
      dsimp only at hc hl4 hle
      rw [hl4] at hc hle
      obtain ⟨lb, lo, rfl, hlb, hlc⟩ := hle.2 (by omega)
      have HLC := Lib.hid hlc
      have HL4 := Lib.hid hl4
      have C4 := own_box (HS.out.own 4 _ rfl)
      have Z4 := own_lt (HS.out.own 4 _ rfl)
      have hO3 := HS.out.own 3 _ rfl
      have HO3 := Lib.hid hO3
      clear hx hl4 hle hlc hO3
      go_wp2
      go_region_law (first
          | (refine step_append_lies _ (by rfl) _ _ 71 (by rfl) wr.heap.size 67 i0 (.agg #[.int .i64 0, .bool false]) 2 16 Try.underlying71 HI.out HZ0.out HZ1.out HZ2.out rfl (by decide) _ 0 [] (by rfl) (World.ownsRow_made _ #[] 0 (Nat.le_refl _) (Nat.zero_le _) rfl) ⟨lb, lo, none⟩ 4 lc (J cEntry es) (by rfl) (by rw [J_length cEntry_len, HL4.out]) (news_of ((Below.refl _ _).drew.alloc (Nat.le_refl _) _) hlb HLC.out) (J_one cEntry_one es) (by omega) (by unfold maxLen; omega) (by omega) (by simp) _ rfl ?_; intro g2 cap2 w2 hown2 hgrow2 hat2 hlt2; have hb2 : Below wr.heap.size wr w2 := below_grow_new ((Below.refl _ _).drew.alloc (Nat.le_refl _) _) hgrow2 (fun k hk => by simp [Value.ownBlock] at hk; omega); have hk2 : w2.cell? ⟨w1.heap.size + 1, 1, none⟩ = some (.slice Ar k cr) := (hb2.cell (p := ⟨w1.heap.size + 1, 1, none⟩) Z4).trans (C4 1); have z2 : w1.heap.size + 1 < w2.heap.size := Nat.lt_of_lt_of_le Z4 hb2.size; have HB2 := Lib.hid hb2; have HOWN2 := Lib.hid hown2; clear hgrow2 hat2 hb2 hown2)
          | (refine step_append_lies _ (by rfl) _ _ 25 (by rfl) w.heap.size 71 i1 (.slice none 0 0) 1 24 Try.underlying25 HI1.out HY0.out HY1.out HY2.out rfl (by decide) _ k (ls'.map Leaf.cell) (by rfl) (World.ownsRow.alloc (HO3.out.mono HB2.out) _) ⟨w2.heap.size, 0, none⟩ 1 1 [.slice (some ⟨g2, 0, none⟩) 4 cap2] (by rfl) rfl (World.news_of_block (heap_alloc_new w2 _)) (by simp [Value.oneCell']) (by omega) (by unfold maxLen; omega) (by omega) (by simp; have := HS.out.bel.size; have := HB2.out.size; omega) _ rfl ?_; intro g3 cap3 w3 hown3 hgrow3 hat3 hlt3; have S3 := nt_step HS.out HB2.out HL4.out HOWN2.out hgrow3 hat3 hown3; have C5 := own_box (S3.own 4 _ rfl); have F5 := own_free (S3.own 4 _ rfl); have hk3 := C5 1; have HS3 := Lib.hid S3; clear hgrow3 hat3 hown3 S3))
      all_goals have S4 := HS3.out.write 4 rfl (World.ownsRow.stored (HS3.out.own 4 _ rfl) 1 (.slice (some ⟨g3, 0, none⟩) (k + 1) cap3)).2 _ (World.ownsRow.stored (HS3.out.own 4 _ rfl) 1 (.slice (some ⟨g3, 0, none⟩) (k + 1) cap3)).1
      all_goals
       have HS4' := Lib.hid S4
       have C6 := own_box (S4.own 0 _ rfl)
       clear S4
       go_wp2
       go_roundw
       case rel => exact ⟨k + 1, _, _, _, by simp [HK.out], by omega, by go_num, newLs_es he.out HX.out, HS4'⟩
       case measure => simp [intOf]; omega
    · have HKN : Hid (k = L.length) := by show k = L.length; omega
      have C4 := own_box (HS.out.own 4 _ rfl)
      have Z4 := own_lt (HS.out.own 4 _ rfl)
      have C1 := own_box (HS.out.own 1 _ rfl)
      have F1 := own_free (HS.out.own 1 _ rfl)
      have P3 := own_putAll [.slice A' D.length c', .slice Ar k cr] _ _ 0 (HS.out.own 1 _ rfl)
      have S7 := HS.out.write 1 rfl P3.2 _ P3.1
      have HS7 := Lib.hid S7
      clear S7 P3
      go_wp2
      refine bodyPost_ret (v := .agg #[.slice A' D.length c', .slice Ar k cr]) (by simp [results, Try.results54, go_sem, C1]) rfl ?_
      have he' := he.out
      rw [HKN.out, List.take_length] at he'
      refine ⟨⟨A', c', D, Ar, cr, ls'⟩, by show _ = Ending.returned (.agg #[_, .slice Ar ls'.length cr]); rw [HK.out], rfl, he', ?_⟩
      have h1 := HS7.out
      simp only [List.cons_append, List.nil_append, List.set_cons_zero, List.set_cons_succ] at h1
      have h2 := h1.tail.tail
      have h3 := Sep.drop1 (P := [ti A' D.length c' D, tR Ar k cr ls']) h2
      show Sep w _ (ti A' D.length c' D :: tR Ar ls'.length cr ls' :: ls'.map tL)
      rw [HK.out]
      exact h3
set_option maxRecDepth 100000 in
set_option maxHeartbeats 4000000 in
theorem l4Own_any (T : Tab) (w : World) (hr : RdT w T) (B : Bd T) (h4 : ∀ l ∈ T.L, l.es.length = 4) :
    Calls Try.prog 79 #[tabV T] w fun e w' => ∃ T' : Tab, e = .returned (tabV T') ∧ T'.D = T.D ∧ T'.E = T.E ∧ Sep w w' T'.things := by
  have HH4 := Lib.hid h4
  obtain ⟨i0, hi, hz0, hz1, hz2⟩ := info_parts Try.info67
  obtain ⟨i1, hi1, hy0, hy1, hy2⟩ := info_parts Try.info71
  have HI := Lib.hid hi
  have HZ0 := Lib.hid hz0
  have HZ1 := Lib.hid hz1
  have HZ2 := Lib.hid hz2
  have HI1 := Lib.hid hi1
  have HY0 := Lib.hid hy0
  have HY1 := Lib.hid hy1
  have HY2 := Lib.hid hy2
  clear h4 hi hz0 hz1 hz2 hi1 hy0 hy1 hy2
  have hBd := B.d
  have hBn := B.n
  obtain ⟨Ad, cd, D, Al, cl, L⟩ := T
  dsimp only at hBd hBn
  have HRD := Lib.hid hr
  have hrd := hr.d
  have hrr := hr.r
  dsimp only at hrd hrr
  show Calls Try.prog 79 #[.agg #[.slice Ad D.length cd, .slice Al L.length cl]] w _
  have S0 := (Sep.start w).new (below_alloc w _) (own_bx w 27 2 #[.slice Ad D.length cd, .slice Al L.length cl] rfl)
  have S1 := S0.new (below_alloc _ _) (own_bx _ 27 2 #[.slice none 0 0, .slice none 0 0] rfl)
  simp only [List.nil_append, List.cons_append, size_alloc] at S1
  have HS1 := Lib.hid S1
  clear S0 S1
  go_enter Try.func79, Try.ntmps79
  go_wp2_with fail
  refine (l1Own_any _ _ _ D _ (hrd.sep HS1.out) hBd).mono ?_
  rintro e w1 ⟨A', c', rfl, ho, hb⟩
  have S2 := HS1.out.new hb ho
  have S3 := S2.new (below_alloc _ _) (t := tR (some ⟨w1.heap.size, 0, none⟩) 0 0 []) (World.ownsRow_made w1 #[] 0 (Nat.le_refl _) (Nat.zero_le _) rfl)
  have S4 := S3.new (below_alloc _ _) (own_bx _ 27 2 #[.slice A' D.length c', .slice (some ⟨w1.heap.size, 0, none⟩) 0 0] rfl)
  simp only [List.nil_append, List.cons_append, size_alloc] at S4
  have C0 := own_box (S4.own 0 _ rfl)
  have Z0 := own_lt (S4.own 0 _ rfl)
  have HS4 := Lib.hid S4
  clear S2 S3 S4 ho hb
  go_wp2
  go_loopw [4] (fun i wr => ∃ (k : Nat) (ls' : List Leaf) (Ar : Option Addr) (cr : Nat), ls'.length = k ∧ k ≤ L.length ∧ i = .int .i64 k ∧ Hid (ls'.map Leaf.es = (L.take k).map Leaf.es) ∧
      Hid (Sep w wr ([bx 27 2 w.heap.size [.slice Ad D.length cd, .slice Al L.length cl], bx 27 2 (w.heap.size + 1) [.slice none 0 0, .slice none 0 0], ti A' D.length c' D, tR Ar k cr ls', bx 27 2 (w1.heap.size + 1) [.slice A' D.length c', .slice Ar k cr]] ++ ls'.map tL)))
    (fun i _ => L.length - (intOf i).toNat)
  case atStart => exact ⟨0, [], _, 0, rfl, Nat.zero_le _, rfl, rfl, HS4⟩
  case round =>
    obtain ⟨k, ls', Ar, cr, hk', hk, rfl, he, HS⟩ := hrel
    have HK := Lib.hid hk'
    clear hk'
    by_cases hlt : k < L.length
    · obtain ⟨l, hx⟩ : ∃ l, L[k]? = some l := ⟨_, List.getElem?_eq_getElem hlt⟩
      obtain ⟨b, o, rfl, hbl, hc⟩ := (hrr.keep HS.out.bel).cellAt (k := k) (u := Leaf.cell l) (by rw [List.getElem?_map, hx]; rfl)
      unfold Leaf.cell at hc
      have hl4 : l.es.length = 4 := HH4.out l (List.mem_of_getElem? hx)
      have hle : Rd wr 2 l.A l.es.length (J cEntry l.es) := (HRD.out.l k l hx).keep HS.out.bel
      have HX := Lib.hid hx
      obtain ⟨lA, lc, es⟩ := l
      dsimp only at hc hl4 hle
      rw [hl4] at hc hle
      obtain ⟨lb, lo, rfl, hlb, hlc⟩ := hle.2 (by omega)
      have HLC := Lib.hid hlc
      have HL4 := Lib.hid hl4
      have C4 := own_box (HS.out.own 4 _ rfl)
      have Z4 := own_lt (HS.out.own 4 _ rfl)
      have C00 := own_box (HS.out.own 0 _ rfl)
      have Z00 := own_lt (HS.out.own 0 _ rfl)
      have hk0 : (0 : Int) ≤ (k : Int) := by omega
      have hk1 : (k : Int) < (L.length : Int) := by omega
      have hO3 := HS.out.own 3 _ rfl
      have HO3 := Lib.hid hO3
      clear hx hl4 hle hlc hO3
      go_wp2
      go_region_law (first
          | (refine step_append_lies _ (by rfl) _ _ 71 (by rfl) wr.heap.size 67 i0 (.agg #[.int .i64 0, .bool false]) 2 16 Try.underlying71 HI.out HZ0.out HZ1.out HZ2.out rfl (by decide) _ 0 [] (by rfl) (World.ownsRow_made _ #[] 0 (Nat.le_refl _) (Nat.zero_le _) rfl) ⟨lb, lo, none⟩ 4 lc (J cEntry es) (by rfl) (by rw [J_length cEntry_len, HL4.out]) (news_of ((Below.refl _ _).drew.alloc (Nat.le_refl _) _) hlb HLC.out) (J_one cEntry_one es) (by omega) (by unfold maxLen; omega) (by omega) (by simp) _ rfl ?_; intro g2 cap2 w2 hown2 hgrow2 hat2 hlt2; have hb2 : Below wr.heap.size wr w2 := below_grow_new ((Below.refl _ _).drew.alloc (Nat.le_refl _) _) hgrow2 (fun k hk => by simp [Value.ownBlock] at hk; omega); have hk2 : w2.cell? ⟨w1.heap.size + 1, 1, none⟩ = some (.slice Ar k cr) := (hb2.cell (p := ⟨w1.heap.size + 1, 1, none⟩) Z4).trans (C4 1); have z2 : w1.heap.size + 1 < w2.heap.size := Nat.lt_of_lt_of_le Z4 hb2.size; have HB2 := Lib.hid hb2; have HOWN2 := Lib.hid hown2; clear hgrow2 hat2 hb2 hown2)
          | (refine step_append_lies _ (by rfl) _ _ 25 (by rfl) w.heap.size 71 i1 (.slice none 0 0) 1 24 Try.underlying25 HI1.out HY0.out HY1.out HY2.out rfl (by decide) _ k (ls'.map Leaf.cell) (by rfl) (World.ownsRow.alloc (HO3.out.mono HB2.out) _) ⟨w2.heap.size, 0, none⟩ 1 1 [.slice (some ⟨g2, 0, none⟩) 4 cap2] (by rfl) rfl (World.news_of_block (heap_alloc_new w2 _)) (by simp [Value.oneCell']) (by omega) (by unfold maxLen; omega) (by omega) (by simp; have := HS.out.bel.size; have := HB2.out.size; omega) _ rfl ?_; intro g3 cap3 w3 hown3 hgrow3 hat3 hlt3; have S3 := nt_step HS.out HB2.out HL4.out HOWN2.out hgrow3 hat3 hown3; have C5 := own_box (S3.own 4 _ rfl); have F5 := own_free (S3.own 4 _ rfl); have hk3 := C5 1; have HS3 := Lib.hid S3; clear hgrow3 hat3 hown3 S3))
      all_goals have S4 := HS3.out.write 4 rfl (World.ownsRow.stored (HS3.out.own 4 _ rfl) 1 (.slice (some ⟨g3, 0, none⟩) (k + 1) cap3)).2 _ (World.ownsRow.stored (HS3.out.own 4 _ rfl) 1 (.slice (some ⟨g3, 0, none⟩) (k + 1) cap3)).1
      all_goals
       have HS4' := Lib.hid S4
       have C6 := own_box (S4.own 0 _ rfl)
       clear S4
       go_wp2
       go_roundw
       case rel => exact ⟨k + 1, _, _, _, by simp [HK.out], by omega, by go_num, newLs_es he.out HX.out, HS4'⟩
       case measure => simp [intOf]; omega
    · have HKN : Hid (k = L.length) := by show k = L.length; omega
      have C4 := own_box (HS.out.own 4 _ rfl)
      have Z4 := own_lt (HS.out.own 4 _ rfl)
      have C00 := own_box (HS.out.own 0 _ rfl)
      have C1 := own_box (HS.out.own 1 _ rfl)
      have F1 := own_free (HS.out.own 1 _ rfl)
      have P3 := own_putAll [.slice A' D.length c', .slice Ar k cr] _ _ 0 (HS.out.own 1 _ rfl)
      have S7 := HS.out.write 1 rfl P3.2 _ P3.1
      have HS7 := Lib.hid S7
      clear S7 P3
      go_wp2
      refine bodyPost_ret (v := .agg #[.slice A' D.length c', .slice Ar k cr]) (by simp [results, Try.results79, go_sem, C1]) rfl ?_
      have he' := he.out
      rw [HKN.out, List.take_length] at he'
      refine ⟨⟨A', c', D, Ar, cr, ls'⟩, by show _ = Ending.returned (.agg #[_, .slice Ar ls'.length cr]); rw [HK.out], rfl, he', ?_⟩
      have h1 := HS7.out
      simp only [List.cons_append, List.nil_append, List.set_cons_zero, List.set_cons_succ] at h1
      have h2 := h1.tail.tail
      have h3 := Sep.drop1 (P := [ti A' D.length c' D, tR Ar k cr ls']) h2
      show Sep w _ (ti A' D.length c' D :: tR Ar ls'.length cr ls' :: ls'.map tL)
      rw [HK.out]
      exact h3

theorem empty_sep {w w1 : World} (hb : Below w.heap.size w w1) (t : TypeId) :
    Sep w ((w1.alloc (.cells #[.int .i64 (-1), .int .i64 (-1), .int .i64 (-1), .int .i64 (-1)] 3)).alloc (.cells #[] 71)) (Tab.things ⟨some ⟨w1.heap.size, 0, none⟩, 4, [-1, -1, -1, -1], some ⟨w1.heap.size + 1, 0, none⟩, 0, []⟩) := by
  have S0 := (Sep.start w).below hb
  have S1 := S0.new (below_alloc w1 _) (t := ti (some ⟨w1.heap.size, 0, none⟩) 4 4 [-1, -1, -1, -1]) (World.ownsRow_lit w1 #[.int .i64 (-1), .int .i64 (-1), .int .i64 (-1), .int .i64 (-1)] 4 (Nat.le_refl _) (by decide) rfl)
  have S2 := S1.new (below_alloc _ _) (t := tR (some ⟨w1.heap.size + 1, 0, none⟩) 0 0 []) (by
    have := World.ownsRow_made (base := (w1.alloc (.cells #[.int .i64 (-1), .int .i64 (-1), .int .i64 (-1), .int .i64 (-1)] 3)).heap.size) (e := 71) (size := 1) (w1.alloc (.cells #[.int .i64 (-1), .int .i64 (-1), .int .i64 (-1), .int .i64 (-1)] 3)) #[] 0 (Nat.le_refl _) (Nat.zero_le _) rfl
    rw [size_alloc] at this ⊢
    exact this)
  exact S2
set_option maxHeartbeats 1000000 in
theorem emptyTable_any (w : World) :
    Calls Try.prog 78 #[] w fun e w' => ∃ T' : Tab, e = .returned (tabV T') ∧ T'.D = [-1, -1, -1, -1] ∧ T'.E = [] ∧ Sep w w' T'.things := by
  go_enter Try.func78, Try.ntmps78
  go_wp2
  refine bodyPost_ret (v := .agg #[.slice (some ⟨w.heap.size + 1, 0, none⟩) 4 4, .slice (some ⟨w.heap.size + 1 + 1, 0, none⟩) 0 0]) (by simp [results, Try.results78, go_sem]) rfl ?_
  refine ⟨⟨some ⟨w.heap.size + 1, 0, none⟩, 4, [-1, -1, -1, -1], some ⟨w.heap.size + 1 + 1, 0, none⟩, 0, []⟩, rfl, rfl, rfl, ?_⟩
  have := empty_sep (below_alloc w (.cells #[.slice (some ⟨w.heap.size + 1, 0, none⟩) 4 4, .slice (some ⟨w.heap.size + 1 + 1, 0, none⟩) 0 0] 27)) 3
  rw [size_alloc] at this
  exact this
set_option maxHeartbeats 1000000 in
theorem l4New_any (w : World) :
    Calls Try.prog 73 #[] w fun e w' => ∃ T' : Tab, e = .returned (tabV T') ∧ T'.D = [-1, -1, -1, -1] ∧ T'.E = [] ∧ Sep w w' T'.things := by
  go_enter Try.func73, Try.ntmps73
  go_wp2
  refine bodyPost_ret (v := .agg #[.slice (some ⟨w.heap.size + 1, 0, none⟩) 4 4, .slice (some ⟨w.heap.size + 1 + 1, 0, none⟩) 0 0]) (by simp [results, Try.results73, go_sem]) rfl ?_
  refine ⟨⟨some ⟨w.heap.size + 1, 0, none⟩, 4, [-1, -1, -1, -1], some ⟨w.heap.size + 1 + 1, 0, none⟩, 0, []⟩, rfl, rfl, rfl, ?_⟩
  have := empty_sep (below_alloc w (.cells #[.slice (some ⟨w.heap.size + 1, 0, none⟩) 4 4, .slice (some ⟨w.heap.size + 1 + 1, 0, none⟩) 0 0] 27)) 3
  rw [size_alloc] at this
  exact this
end Go.Proofs.Ytaaocnfbbajphaa
