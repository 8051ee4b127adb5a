/- Contracts of toEntrySS, toTable, eqEntrySS, eqTable. Lengths at most 2^20. -/
import Derived.Test.YtkgpdiajnjekcaaTt
import Derived.Deep.RegionWith
namespace Go.Proofs.Ytkgpdiajnjekcaa
open Go.RowKit
set_option linter.unusedVariables false
set_option linter.unusedSimpArgs false

theorem Try.info85 : (Try.prog.info? 85).map (fun i => (i.zero, i.size, i.bytes)) = some (some (.slice none 0 0), 1, 24) := by kernel_rfl
theorem madeRows (n : Nat) : (madeCells (Value.slice none 0 0).cells (n * 1)).toList = List.replicate n (.slice none 0 0) := by
  show (madeCells #[Value.slice none 0 0] (n * 1)).toList = _
  rw [toList_madeCells_one, Nat.mul_one]
abbrev tRv (A : Option Addr) (n c : Nat) (xs : List Value) : Thing := ⟨85, 1, A, n, c, xs⟩
theorem rows_fill (ls' : List Leaf) (l : Leaf) (n k : Nat) (hk : ls'.length = k) (h : k < n) :
    (ls'.map Leaf.cell ++ List.replicate (n - k) (Value.slice none 0 0)).set k l.cell = (ls' ++ [l]).map Leaf.cell ++ List.replicate (n - (k + 1)) (.slice none 0 0) := by
  subst hk
  have h2 : n - ls'.length = (n - (ls'.length + 1)) + 1 := by omega
  rw [List.set_append, if_neg (by simp), List.length_map, Nat.sub_self, h2, List.replicate_succ, List.set_cons_zero, List.map_append, List.append_assoc]
  rfl
theorem rows_hole (ls' : List Leaf) (n k : Nat) (hk : ls'.length = k) (h : k < n) : (ls'.map Leaf.cell ++ List.replicate (n - k) (Value.slice none 0 0))[k]? = some (.slice none 0 0) := by
  subst hk
  rw [List.getElem?_append_right (by simp), List.length_map, Nat.sub_self, List.getElem?_replicate, if_pos (by omega)]
theorem map_take_snoc {ls ls' : List Leaf} {k : Nat} {l l' : Leaf} (h : ls'.map Leaf.es = (ls.take k).map Leaf.es) (hl : ls[k]? = some l) (he : l'.es = l.es) : (ls' ++ [l']).map Leaf.es = (ls.take (k + 1)).map Leaf.es := by
  rw [List.map_append, h, List.take_add_one, hl, List.map_append]; simp [he]

set_option maxHeartbeats 2000000 in
theorem toEntrySS_any (A : Option Addr) (c : Nat) (ls : List Leaf) (w : World) (hr : Rd w 1 A ls.length (ls.map Leaf.cell)) (hl : ∀ (j : Nat) (x : Leaf), ls[j]? = some x → Rd w 2 x.A x.es.length (J cEntry x.es)) (hn : ls.length ≤ 1048576) (hl2 : ∀ l ∈ ls, l.es.length ≤ 1048576) :
    Calls Try.prog 80 #[.slice A ls.length c] w fun e w' => ∃ A' c' ls', e = .returned (.slice A' ls.length c') ∧ ls'.map Leaf.es = ls.map Leaf.es ∧ Sep w w' (tR A' ls.length c' ls' :: ls'.map tL) := by
  have HL := Lib.hid hl
  have HL2 := Lib.hid hl2
  clear hl hl2
  obtain ⟨i0, hi, hz0, hz1, hz2⟩ := info_parts Try.info85
  go_enter Try.func80, Try.ntmps80
  go_wp2_with (at_make; refine wpList_make_full _ rfl _ _ 25 rfl w.heap.size 85 i0 (.slice none 0 0) 1 Try.underlying25 hi hz0 hz1 .i64 .i64 _ _ ls.length rfl rfl (by first | rfl | omega) (by first | rfl | omega) (by rw [hz2]; omega) (by unfold maxLen; omega) (Nat.le_refl _) ?_; intro w1 hown hgrow)
  rw [madeRows] at hown
  have hb1 : Below w.heap.size w w1 := (Below.refl _ _).grown hgrow (Nat.le_refl _) (by simp)
  have S1 := sep_one (t := tRv _ _ _ _) hb1 hown
  clear hgrow hi hz0 hz1 hz2 hown hb1
  go_loopw [4] (fun i wr => ∃ (k : Nat) (ls' : List Leaf), ls'.length = k ∧ k ≤ ls.length ∧ i = .int .i64 k ∧ ls'.map Leaf.es = (ls.take k).map Leaf.es ∧ Sep w wr (tRv (some ⟨w.heap.size, 0, none⟩) ls.length ls.length (ls'.map Leaf.cell ++ List.replicate (ls.length - k) (.slice none 0 0)) :: ls'.map tL))
    (fun i _ => ls.length - (intOf i).toNat)
  case atStart => exact ⟨0, [], rfl, Nat.zero_le _, rfl, rfl, by simpa using S1⟩
  case round =>
    obtain ⟨k, ls', hk', hk, rfl, he, S⟩ := hrel
    have HK := Lib.hid hk'
    have HE := Lib.hid he
    have HS := Lib.hid S
    clear hk' he S S1
    by_cases hlt : k < ls.length
    · obtain ⟨l, hx⟩ : ∃ l, ls[k]? = some l := ⟨_, List.getElem?_eq_getElem hlt⟩
      obtain ⟨b, o, rfl, hbl, hc⟩ := (hr.keep HS.out.bel).cellAt (k := k) (u := Leaf.cell l) (by rw [List.getElem?_map, hx]; rfl)
      unfold Leaf.cell at hc
      have HX := Lib.hid hx
      clear hx
      go_wp2_with fail
      refine (toEntryS_any _ _ _ l.es _ ((HL.out k l HX.out).keep HS.out.bel) (HL2.out l (List.mem_of_getElem? HX.out))).mono ?_
      rintro e w2 ⟨A', c', rfl, ho, hb⟩
      have S2 := HS.out.new hb ho
      have hO2 := S2.own 0 _ rfl
      have hx0 : w2.cell? ⟨w.heap.size, k, none⟩ = some (.slice none 0 0) := by
        rw [World.ownsRow.cellAt hO2 k (by simpa using hlt)]
        exact rows_hole ls' ls.length k HK.out hlt
      have hf := World.ownsRow.frozenAt hO2 k
      have hs := World.ownsRow.stored hO2 k (Leaf.cell ⟨A', c', l.es⟩)
      have S3 := S2.write 0 rfl hs.2 _ hs.1
      have HF : Hid (Sep w (w2.setCell ⟨w.heap.size, k, none⟩ (.slice A' l.es.length c')) (tRv (some ⟨w.heap.size, 0, none⟩) ls.length ls.length ((ls' ++ [(⟨A', c', l.es⟩ : Leaf)]).map Leaf.cell ++ List.replicate (ls.length - (k + 1)) (.slice none 0 0)) :: (ls' ++ [(⟨A', c', l.es⟩ : Leaf)]).map tL)) := by
        have e1 := rows_fill ls' ⟨A', c', l.es⟩ ls.length k HK.out hlt
        rw [← e1, List.map_append (f := tL)]
        exact S3
      clear S2 S3 hO2 hs ho hb
      go_wp2
      go_roundw
      case rel => exact ⟨k + 1, ls' ++ [⟨A', c', l.es⟩], by simp [HK.out], by omega, by go_num, map_take_snoc HE.out HX.out rfl, HF.out⟩
      case measure => simp [intOf]; omega
    · have hkn : k = ls.length := by omega
      go_wp2
      go_ret
      refine ⟨_, _, ls', rfl, by rw [HE.out, hkn, List.take_length], ?_⟩
      have := HS.out
      rw [hkn, Nat.sub_self, List.replicate_zero, List.append_nil] at this
      exact this

set_option maxHeartbeats 2000000 in
theorem toTable_any (T : Tab) (w : World) (hr : RdT w T) (hd : T.D.length ≤ 1048576) (hn : T.L.length ≤ 1048576) (hl : ∀ l ∈ T.L, l.es.length ≤ 1048576) :
    Calls Try.prog 29 #[tabV T] w fun e w' => ∃ T' : Tab, e = .returned (tabV T') ∧ T'.D = T.D ∧ T'.E = T.E ∧ Sep w w' T'.things := by
  have HL := Lib.hid hl
  clear hl
  have S0 := (Sep.start w).new (below_alloc w _) (own_bx w 43 2 #[.slice T.Ad T.D.length T.cd, .slice T.Al T.L.length T.cl] rfl)
  have S1 := S0.new (below_alloc _ _) (own_bx _ 27 2 #[.slice none 0 0, .slice none 0 0] rfl)
  have S2 := S1.new (below_alloc _ _) (own_bx _ 27 2 #[.slice none 0 0, .slice none 0 0] rfl)
  simp only [List.nil_append, List.cons_append, size_alloc] at S2
  have HS2 := Lib.hid S2
  clear S0 S1 S2
  go_enter Try.func29, Try.ntmps29
  go_wp2_with fail
  refine (toIntS_any _ _ _ T.D _ (hr.d.sep HS2.out) hd).mono ?_
  rintro e w1 ⟨A', c', rfl, ho, hb⟩
  have S3 := HS2.out.new hb ho
  simp only [List.nil_append, List.cons_append] at S3
  have C0 := own_box (S3.own 0 _ rfl)
  have C1 := own_box (S3.own 2 _ rfl)
  have F1 := own_free (S3.own 2 _ rfl)
  have HS3 := Lib.hid S3
  have P1 := own_putAll [.slice A' T.D.length c'] w1 _ 0 (S3.own 2 _ rfl)
  have S4 := S3.write 2 rfl P1.2 _ P1.1
  have HS4 := Lib.hid S4
  clear S3 S4 P1 ho hb
  go_wp2_with fail
  refine (toEntrySS_any _ _ T.L _ (hr.r.sep HS4.out) (fun j x hx => (hr.l j x hx).sep HS4.out) hn HL.out).mono ?_
  rintro e w2 ⟨A2, c2, ls', rfl, hes, R⟩
  have S5 := HS4.out.join R
  simp only [setAll, List.set_cons_zero, List.set_cons_succ] at S5
  have C0 := own_box (S5.own 0 _ rfl)
  have C2 := own_box (S5.own 2 _ rfl)
  have F1 := own_free (S5.own 1 _ rfl)
  have F2 := own_free (S5.own 2 _ rfl)
  have C1 := own_box (S5.own 1 _ rfl)
  have Z2 := own_lt (S5.own 2 _ rfl)
  have P2 := own_putAll [.slice A2 T.L.length c2] w2 _ 1 (S5.own 2 _ rfl)
  have S6 := S5.write 2 rfl P2.2 _ P2.1
  have P3 := own_putAll [.slice A' T.D.length c', .slice A2 T.L.length c2] _ _ 0 (S6.own 1 _ rfl)
  have S7 := S6.write 1 rfl P3.2 _ P3.1
  have HS7 := Lib.hid S7
  have hlen : ls'.length = T.L.length := by have := congrArg List.length hes; simpa using this
  have HN := Lib.hid hlen
  have HE := Lib.hid hes
  clear S5 S6 S7 P2 P3 R hlen hes
  go_wp2
  refine bodyPost_ret (v := .agg #[.slice A' T.D.length c', .slice A2 T.L.length c2]) (by simp [results, Try.results29, go_sem, C1]) rfl ?_
  refine ⟨⟨A', c', T.D, A2, c2, ls'⟩, by show _ = Ending.returned (.agg #[_, .slice A2 ls'.length c2]); rw [HN.out], rfl, HE.out, ?_⟩
  have := Sep.mid (P := _ :: _ :: _ :: []) (Q := []) (M := (⟨A', c', T.D, A2, c2, ls'⟩ : Tab).things) (by rw [List.append_nil]; simp only [Tab.things, HN.out]; exact HS7.out)
  exact this
end Go.Proofs.Ytkgpdiajnjekcaa
