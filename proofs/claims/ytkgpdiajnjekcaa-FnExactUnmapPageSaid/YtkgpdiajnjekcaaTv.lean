/- Contracts of eqEntrySS, eqTable, markEntrySS, markTable, heldEntrySS, heldTable. Lengths at most 2^20. -/
import Derived.Test.YtkgpdiajnjekcaaTt
import Derived.Deep.RegionWith
namespace Go.Proofs.Ytkgpdiajnjekcaa
open Go.RowKit
set_option linter.unusedVariables false
set_option linter.unusedSimpArgs false

theorem es_at {ls ls' : List Leaf} {k : Nat} {x x' : Leaf} (h : ls.map Leaf.es = ls'.map Leaf.es) (hx : ls[k]? = some x) (hx' : ls'[k]? = some x') : x'.es = x.es := by
  have h1 : (ls.map Leaf.es)[k]? = some x.es := by rw [List.getElem?_map, hx]; rfl
  have h2 : (ls'.map Leaf.es)[k]? = some x'.es := by rw [List.getElem?_map, hx']; rfl
  rw [h, h2] at h1
  exact Option.some.inj h1

set_option maxHeartbeats 2000000 in
theorem eqEntrySS_same (A A' : Option Addr) (c c' : Nat) (ls ls' : List Leaf) (w : World) (hr : Rd w 1 A ls.length (ls.map Leaf.cell)) (hl : ∀ (j : Nat) (x : Leaf), ls[j]? = some x → Rd w 2 x.A x.es.length (J cEntry x.es))
    (hr' : Rd w 1 A' ls'.length (ls'.map Leaf.cell)) (hl' : ∀ (j : Nat) (x : Leaf), ls'[j]? = some x → Rd w 2 x.A x.es.length (J cEntry x.es)) (he : ls.map Leaf.es = ls'.map Leaf.es) (hn : ls.length ≤ 1048576) (hl2 : ∀ l ∈ ls, l.es.length ≤ 1048576) :
    Calls Try.prog 81 #[.slice A ls.length c, .slice A' ls'.length c'] w fun e w' => e = .returned (.bool true) ∧ Below w.heap.size w w' := by
  have hlen : ls'.length = ls.length := by have := congrArg List.length he; simpa using this.symm
  rw [hlen] at hr' ⊢
  have HE := Lib.hid he
  have HL := Lib.hid hl
  have HL' := Lib.hid hl'
  have HL2 := Lib.hid hl2
  have HN := Lib.hid hlen
  clear hl hl' hl2 he hlen
  have hnb : ((ls.length : Int) != (ls.length : Int)) = false := by simp
  go_enter Try.func81, Try.ntmps81
  go_wp2
  go_loopw [5] (fun i wr => ∃ k : Nat, k ≤ ls.length ∧ i = .int .i64 k ∧ Below w.heap.size w wr) (fun i _ => ls.length - (intOf i).toNat)
  case atStart => exact ⟨0, Nat.zero_le _, rfl, Below.refl _ _⟩
  case round =>
    obtain ⟨k, hk, rfl, hB⟩ := hrel
    clear hnb
    by_cases hlt : k < ls.length
    · obtain ⟨x, hx⟩ : ∃ x, ls[k]? = some x := ⟨_, List.getElem?_eq_getElem hlt⟩
      obtain ⟨y, hy⟩ : ∃ y, ls'[k]? = some y := ⟨_, List.getElem?_eq_getElem (by have := HN.out; omega)⟩
      obtain ⟨b, o, rfl, hbl, hc⟩ := (hr.keep hB).cellAt (k := k) (u := Leaf.cell x) (by rw [List.getElem?_map, hx]; rfl)
      obtain ⟨b', o', rfl, hbl', hc'⟩ := (hr'.keep hB).cellAt (k := k) (u := Leaf.cell y) (by rw [List.getElem?_map, hy]; rfl)
      have hxy := es_at HE.out hx hy
      have h1 := (HL.out k x hx).keep hB
      have h2 := (HL'.out k y hy).keep hB
      have h3 := HL2.out x (List.mem_of_getElem? hx)
      unfold Leaf.cell at hc hc'
      rw [hxy] at hc' h2
      have ex : ∀ q : Ext wr, q.1.cell? ⟨b, o + k, none⟩ = some (.slice x.A x.es.length x.c) := fun q => (Ext.cell b hbl q _).trans hc
      have ey : ∀ q : Ext wr, q.1.cell? ⟨b', o' + k, none⟩ = some (.slice y.A x.es.length y.c) := fun q => (Ext.cell b' hbl' q _).trans hc'
      have h4 : (0 : Int) ≤ (k : Int) := by omega
      have h5 : (k : Int) < (ls.length : Int) := by omega
      clear hc hc' hxy hx hy
      go_wp2_with fail
      refine wp_region_ext (by kernel_rfl) (by kernel_rfl) ?_
      repeat (go_big_quiet_step ((go_at_call 113; refine calls_ext (eqEntryS_same x.A y.A x.es.length x.c y.c x.es _ (h1.keep (Subtype.property _)) (h2.keep (Subtype.property _)) h3))))
      refine wpQuiet_nil ?_
      rintro _ ⟨⟨w1, hb1⟩, rfl⟩
      go_wp2
      go_roundw
      case rel => exact ⟨k + 1, by omega, by go_num, below_next hB hb1⟩
      case measure => simp [intOf]; omega
    · go_wp2
      go_ret
      exact ⟨rfl, hB⟩

set_option maxHeartbeats 1000000 in
theorem eqTable_same (T T' : Tab) (w : World) (hr : RdT w T) (hr' : RdT w T') (hD : T'.D = T.D) (hE : T'.E = T.E) (hd : T.D.length ≤ 1048576) (hn : T.L.length ≤ 1048576) (hl2 : ∀ l ∈ T.L, l.es.length ≤ 1048576) :
    Calls Try.prog 30 #[tabV T, tabV T'] w fun e w' => e = .returned (.bool true) ∧ Below w.heap.size w w' := by
  have HL2 := Lib.hid hl2
  have HE := Lib.hid (show T.L.map Leaf.es = T'.L.map Leaf.es from hE.symm)
  have hrd := hr'.d
  rw [hD] at hrd
  have hb0 := (below_alloc w (.cells #[.slice T.Ad T.D.length T.cd, .slice T.Al T.L.length T.cl] 27)).alloc (by simp) (.cells #[.slice T'.Ad T.D.length T'.cd, .slice T'.Al T'.L.length T'.cl] 27)
  have B0 := (Box.new w 27 #[.slice T.Ad T.D.length T.cd, .slice T.Al T.L.length T.cl]).alloc (.cells #[.slice T'.Ad T.D.length T'.cd, .slice T'.Al T'.L.length T'.cl] 27)
  have B1 := Box.new1 w (.cells #[.slice T.Ad T.D.length T.cd, .slice T.Al T.L.length T.cl] 27) 27 #[.slice T'.Ad T.D.length T'.cd, .slice T'.Al T'.L.length T'.cl]
  have HB0 := Lib.hid B0
  have HB1 := Lib.hid B1
  have Hb := Lib.hid hb0
  unfold tabV
  rw [hD]
  clear B0 B1 hl2 hE hD hb0
  go_enter Try.func30, Try.ntmps30
  go_wp2_with fail
  refine (eqIntS_same _ _ _ _ _ T.D _ (hr.d.keep Hb.out) (hrd.keep Hb.out) hd).mono ?_
  rintro e w1 ⟨rfl, hb⟩
  have C0 := (HB0.out.keep hb).cell
  have C1 := (HB1.out.keep hb).cell
  have Hb1 := Lib.hid (Hb.out.trans (hb.mono (by simp; omega)))
  clear hb
  go_wp2_with fail
  refine (eqEntrySS_same _ _ _ _ T.L T'.L _ (hr.r.keep Hb1.out) (fun j x hx => (hr.l j x hx).keep Hb1.out) (hr'.r.keep Hb1.out) (fun j x hx => (hr'.l j x hx).keep Hb1.out) HE.out hn HL2.out).mono ?_
  rintro e w2 ⟨rfl, hb⟩
  go_wp2
  go_ret
  exact ⟨rfl, below_next Hb1.out hb⟩

/-- how many entries the leaves have -/
def sumL (ls : List Leaf) : Nat := (ls.map fun l => l.es.length).sum
theorem sumL_snoc (ls : List Leaf) (x : Leaf) : sumL (ls ++ [x]) = sumL ls + x.es.length := by simp [sumL]
theorem sumL_take : ∀ (ls : List Leaf) (k : Nat), sumL (ls.take k) ≤ sumL ls
  | [], k => by simp
  | x :: ls, 0 => by simp [sumL]
  | x :: ls, k + 1 => by have := sumL_take ls k; simp [sumL] at this ⊢; omega
/-- the leaves marked from m on -/
def mkLs (m : Int) : List Leaf → List Leaf
  | [] => []
  | l :: ls => ⟨l.A, l.c, mksEntry m l.es.length⟩ :: mkLs (m + (l.es.length : Int) * 2) ls
def nxL (m : Int) (ls : List Leaf) : Int := m + (sumL ls : Int) * 2
theorem mkLs_snoc : ∀ (m : Int) (ls : List Leaf) (x : Leaf), mkLs m (ls ++ [x]) = mkLs m ls ++ [⟨x.A, x.c, mksEntry (nxL m ls) x.es.length⟩]
  | m, [], x => by simp [mkLs, nxL, sumL]
  | m, l :: ls, x => by
    have e : nxL (m + (l.es.length : Int) * 2) ls = nxL m (l :: ls) := by simp [nxL, sumL]; omega
    rw [List.cons_append, mkLs, mkLs_snoc, e, mkLs, List.cons_append]
theorem mkLs_len : ∀ (m : Int) (ls : List Leaf), (mkLs m ls).length = ls.length
  | m, [] => rfl
  | m, l :: ls => by simp [mkLs, mkLs_len]
theorem mkLs_cells : ∀ (m : Int) (ls : List Leaf), (mkLs m ls).map Leaf.cell = ls.map Leaf.cell
  | m, [] => rfl
  | m, l :: ls => by simp [mkLs, mkLs_cells, Leaf.cell, mksEntry_length]
theorem mkLs_get {m : Int} {ls : List Leaf} {k : Nat} {x : Leaf} (hx : ls[k]? = some x) : (mkLs m ls)[k]? = some ⟨x.A, x.c, mksEntry (nxL m (ls.take k)) x.es.length⟩ := by
  have hk := (List.getElem?_eq_some_iff.1 hx).1
  have h1 : ls = ls.take k ++ [x] ++ ls.drop (k + 1) := by
    have := List.take_append_drop (k + 1) ls
    rw [List.take_add_one, hx] at this
    exact this.symm
  have h2 : ∀ (a b : List Leaf) (m : Int), ∃ c, mkLs m (a ++ b) = mkLs m a ++ c := by
    intro a b
    induction a with
    | nil => intro m; exact ⟨mkLs m b, rfl⟩
    | cons y a ih => intro m; obtain ⟨c, hc⟩ := ih (m + (y.es.length : Int) * 2); exact ⟨c, by rw [List.cons_append, mkLs, hc, mkLs, List.cons_append]⟩
  obtain ⟨c, hc⟩ := h2 (ls.take k ++ [x]) (ls.drop (k + 1)) m
  rw [← h1, mkLs_snoc] at hc
  have hl : (mkLs m (ls.take k)).length = k := by rw [mkLs_len]; simp; omega
  rw [hc, List.append_assoc, List.getElem?_append_right (by omega), hl, Nat.sub_self]; rfl

/-- the slice of the leaves, and the leaves -/
def rowsT (A : Option Addr) (c : Nat) (L : List Leaf) : List Thing := tR A L.length c L :: L.map tL
theorem things_rows (T : Tab) : T.things = ti T.Ad T.D.length T.cd T.D :: rowsT T.Al T.cl T.L := rfl
theorem cells_set {L : List Leaf} {k : Nat} {x : Leaf} {es' : List REntry} (hx : L[k]? = some x) (hl : es'.length = x.es.length) : (L.set k ⟨x.A, x.c, es'⟩).map Leaf.cell = L.map Leaf.cell := by
  rw [List.map_set]
  refine set_self_eq ?_
  rw [List.getElem?_map, hx]
  simp [Leaf.cell, hl]
theorem rows_write {W0 w w' : World} {P Q : List Thing} {A : Option Addr} {c : Nat} {L : List Leaf} (S : Sep W0 w (P ++ rowsT A c L ++ Q)) (k : Nat) {x : Leaf} (hx : L[k]? = some x) (hg : w.grownBy w' (blk x.A)) (es' : List REntry)
    (hl : es'.length = x.es.length) (ho : Own w' W0.heap.size (tsEntry x.A x.es.length x.c es')) : Sep W0 w' (P ++ rowsT A c (L.set k ⟨x.A, x.c, es'⟩) ++ Q) := by
  have h1 : (rowsT A c L)[k + 1]? = some (tL x) := by simp [rowsT, hx]
  have := S.writeMid (k + 1) h1 hg (J cEntry es') ho
  have e : (rowsT A c L).set (k + 1) { tL x with xs := J cEntry es' } = rowsT A c (L.set k ⟨x.A, x.c, es'⟩) := by
    unfold rowsT
    rw [List.set_cons_succ, List.length_set]
    have e1 : tR A L.length c (L.set k ⟨x.A, x.c, es'⟩) = tR A L.length c L := by unfold tR; rw [cells_set hx hl]
    rw [e1, List.map_set]
    show _ :: (L.map tL).set k ⟨81, 2, x.A, x.es.length, x.c, J cEntry es'⟩ = _ :: (L.map tL).set k ⟨81, 2, x.A, es'.length, x.c, J cEntry es'⟩
    rw [hl]
  rw [e] at this
  exact this

set_option maxHeartbeats 2000000 in
theorem markEntrySS_any (W0 : World) (P Q : List Thing) (A : Option Addr) (c : Nat) (ls : List Leaf) (m : Int) (w : World) (S : Sep W0 w (P ++ rowsT A c ls ++ Q)) (hn : ls.length ≤ 1048576) (hl2 : ∀ l ∈ ls, l.es.length ≤ 1048576) (hs : sumL ls ≤ 1048576) (hm0 : 0 ≤ m) (hm1 : m ≤ 1000000000) :
    Calls Try.prog 85 #[.slice A ls.length c, .int .i64 m] w fun e w' => e = .returned (.int .i64 (nxL m ls)) ∧ Sep W0 w' (P ++ rowsT A c (mkLs m ls) ++ Q) := by
  have HS := Lib.hid S
  have HL2 := Lib.hid hl2
  have HM := Lib.hid hs
  clear S hl2 hs
  go_enter Try.func85, Try.ntmps85
  go_wp2
  go_loopw [1, 5] (fun a i wr => ∃ (k : Nat) (q : Int), k ≤ ls.length ∧ i = .int .i64 k ∧ a = .int .i64 q ∧ 0 ≤ q ∧ q ≤ 1010000000 ∧ Hid (q = nxL m (ls.take k)) ∧ Hid (Sep W0 wr (P ++ rowsT A c (mkLs m (ls.take k) ++ ls.drop k) ++ Q)))
    (fun _ i _ => ls.length - (intOf i).toNat)
  case atStart => exact ⟨0, m, Nat.zero_le _, rfl, rfl, hm0, by omega, by show m = nxL m (ls.take 0); simp [nxL, sumL], HS⟩
  case round =>
    obtain ⟨k, q, hk, rfl, rfl, hq0, hq1, hq, HW⟩ := hrel
    by_cases hlt : k < ls.length
    · obtain ⟨x, hx⟩ : ∃ x, ls[k]? = some x := ⟨_, List.getElem?_eq_getElem hlt⟩
      have hl : (mkLs m (ls.take k)).length = k := by rw [mkLs_len]; simp; omega
      have hx2 : (mkLs m (ls.take k) ++ ls.drop k)[k]? = some x := by
        rw [List.getElem?_append_right (by omega), hl, Nat.sub_self, List.getElem?_drop]; exact hx
      have hrow : (rowsT A c (mkLs m (ls.take k) ++ ls.drop k))[k + 1]? = some (tL x) := by simp only [rowsT, List.getElem?_cons_succ, List.getElem?_map, hx2]; rfl
      have hlen : (mkLs m (ls.take k) ++ ls.drop k).length = ls.length := by rw [List.length_append, hl, List.length_drop]; omega
      have hR : Rd wr 1 A ls.length ((mkLs m (ls.take k) ++ ls.drop k).map Leaf.cell) := by
        have := HW.out.mid.rd 0 (t := tR A (mkLs m (ls.take k) ++ ls.drop k).length c (mkLs m (ls.take k) ++ ls.drop k)) rfl
        rw [hlen] at this
        exact this
      obtain ⟨b, o, rfl, hbl, hc⟩ := hR.cellAt (k := k) (u := Leaf.cell x) (by rw [List.getElem?_map, hx2]; rfl)
      unfold Leaf.cell at hc
      have hO := HW.out.ownMid (k + 1) hrow
      have h3 := HL2.out x (List.mem_of_getElem? hx)
      have hqk : Hid (nxL m (ls.take (k + 1)) = q + (x.es.length : Int) * 2) := by
        rw [hq.out, List.take_add_one, hx]
        show nxL m (ls.take k ++ [x]) = _
        unfold nxL
        rw [sumL_snoc]; omega
      have hqb : Hid (nxL m (ls.take (k + 1)) ≤ 1010000000) := by
        have := sumL_take ls (k + 1)
        have := HM.out
        show m + ((sumL (ls.take (k + 1)) : Nat) : Int) * 2 ≤ 1010000000
        omega
      have HX := Lib.hid hx
      have HX2 := Lib.hid hx2
      clear hx hx2 hl hrow hlen hR
      go_wp2_with fail
      refine (markEntryS_any x.A x.es.length x.c _ x.es q _ hO h3 hq0 (by omega)).mono ?_
      rintro e w2 ⟨rfl, ho, hg⟩
      have HF : Hid (Sep W0 w2 (P ++ rowsT (some ⟨b, o, none⟩) c (mkLs m (ls.take (k + 1)) ++ ls.drop (k + 1)) ++ Q)) := by
        have S2 := rows_write HW.out k HX2.out hg (mksEntry q x.es.length) (mksEntry_length _ _) ho
        have e1 : (mkLs m (ls.take k) ++ ls.drop k).set k ⟨x.A, x.c, mksEntry q x.es.length⟩ = mkLs m (ls.take (k + 1)) ++ ls.drop (k + 1) := by
          have hl : (mkLs m (ls.take k)).length = k := by rw [mkLs_len]; simp; omega
          rw [List.set_append, if_neg (by omega), hl, Nat.sub_self, List.drop_eq_getElem_cons hlt, List.set_cons_zero, List.take_add_one, HX.out]
          show _ = mkLs m (ls.take k ++ [x]) ++ _
          rw [mkLs_snoc, ← hq.out, List.append_assoc]; rfl
        rw [e1] at S2
        exact S2
      clear ho hg hO
      go_wp2
      go_roundw
      case rel => exact ⟨k + 1, q + (x.es.length : Int) * 2, by omega, by go_num, rfl, by omega, by have := hqk.out; have := hqb.out; omega, hqk.out.symm, HF⟩
      case measure => simp [intOf]; omega
    · have hkn : k = ls.length := by omega
      go_wp2
      go_ret
      have h1 := hq.out
      have h2 := HW.out
      rw [hkn, List.take_length] at h1 h2
      rw [List.drop_length, List.append_nil] at h2
      exact ⟨ret_int h1, h2⟩

/-- a table marked from m on -/
def mkT (m : Int) (T : Tab) : Tab := ⟨T.Ad, T.cd, marks m T.D.length, T.Al, T.cl, mkLs (m + T.D.length) T.L⟩
def nxT (m : Int) (T : Tab) : Int := nxL (m + T.D.length) T.L
set_option maxHeartbeats 2000000 in
theorem markTable_any (W0 : World) (P Q : List Thing) (T : Tab) (m : Int) (w : World) (S : Sep W0 w (P ++ T.things ++ Q)) (hd : T.D.length ≤ 1048576) (hn : T.L.length ≤ 1048576) (hl2 : ∀ l ∈ T.L, l.es.length ≤ 1048576) (hs : sumL T.L ≤ 1048576) (hm0 : 0 ≤ m) (hm1 : m ≤ 100000000) :
    Calls Try.prog 36 #[tabV T, .int .i64 m] w fun e w' => e = .returned (.int .i64 (nxT m T)) ∧ Sep W0 w' (P ++ (mkT m T).things ++ Q) := by
  have S0 : Sep W0 (w.alloc (.cells #[.slice T.Ad T.D.length T.cd, .slice T.Al T.L.length T.cl] 27)) (P ++ T.things ++ (Q ++ [bx 27 2 w.heap.size [.slice T.Ad T.D.length T.cd, .slice T.Al T.L.length T.cl]])) := by
    have := S.new (below_alloc w _) (own_bx w 27 2 #[.slice T.Ad T.D.length T.cd, .slice T.Al T.L.length T.cl] rfl)
    rw [List.append_assoc] at this
    exact this
  have HS0 := Lib.hid S0
  have HL2 := Lib.hid hl2
  have HM := Lib.hid hs
  clear S S0 hl2 hs
  go_enter Try.func36, Try.ntmps36
  go_wp2_with fail
  refine (markIntS_any _ _ _ _ T.D m _ (HS0.out.ownMid 0 rfl) (by omega) (by omega) (by omega)).mono ?_
  rintro e w1 ⟨rfl, ho, hg⟩
  have S1 := HS0.out.writeMid 0 (t := ti T.Ad T.D.length T.cd T.D) rfl hg _ ho
  have S2 : Sep W0 w1 ((P ++ [ti T.Ad T.D.length T.cd (marks m T.D.length)]) ++ rowsT T.Al T.cl T.L ++ (Q ++ [bx 27 2 w.heap.size [.slice T.Ad T.D.length T.cd, .slice T.Al T.L.length T.cl]])) := by
    rw [things_rows, List.set_cons_zero] at S1
    rw [List.append_assoc P]
    exact S1
  have C1 := own_box (g := w.heap.size) (Sep.own (W0 := W0) (L := [bx 27 2 w.heap.size [.slice T.Ad T.D.length T.cd, .slice T.Al T.L.length T.cl]]) (Sep.mid (P := (P ++ [ti T.Ad T.D.length T.cd (marks m T.D.length)]) ++ rowsT T.Al T.cl T.L ++ Q) (Q := []) (by rw [List.append_nil]; simp only [List.append_assoc] at S2 ⊢; exact S2)) 0 _ rfl)
  have HS2 := Lib.hid S2
  clear S1 S2 ho hg
  go_wp2_with fail
  refine (markEntrySS_any W0 _ _ _ _ T.L _ _ HS2.out hn HL2.out HM.out (by omega) (by omega)).mono ?_
  rintro e w2 ⟨rfl, S3⟩
  have HS3 := Lib.hid S3
  clear S3
  go_wp2
  go_ret
  refine ⟨rfl, ?_⟩
  have e : (mkT m T).things = ti T.Ad T.D.length T.cd (marks m T.D.length) :: rowsT T.Al T.cl (mkLs (m + T.D.length) T.L) := by
    rw [things_rows]; simp only [mkT, marks_length]
  rw [e]
  refine Sep.mid (P := []) (Q := [bx 27 2 w.heap.size [.slice T.Ad T.D.length T.cd, .slice T.Al T.L.length T.cl]]) ?_
  have := HS3.out
  simp only [List.append_assoc, List.nil_append, List.cons_append] at this ⊢
  exact this

set_option maxHeartbeats 2000000 in
theorem heldEntrySS_marks (A : Option Addr) (c : Nat) (ls : List Leaf) (m : Int) (w : World) (hr : Rd w 1 A ls.length (ls.map Leaf.cell)) (hl : ∀ (j : Nat) (x : Leaf), ls[j]? = some x → Rd w 2 x.A x.es.length (J cEntry (mksEntry (nxL m (ls.take j)) x.es.length))) (hn : ls.length ≤ 1048576) (hl2 : ∀ l ∈ ls, l.es.length ≤ 1048576) (hs : sumL ls ≤ 1048576) (hm0 : 0 ≤ m) (hm1 : m ≤ 1000000000) :
    Calls Try.prog 86 #[.slice A ls.length c, .int .i64 m] w fun e w' => e = .returned (.int .i64 (nxL m ls)) ∧ Below w.heap.size w w' := by
  have HL := Lib.hid hl
  have HL2 := Lib.hid hl2
  have HM := Lib.hid hs
  clear hl hl2 hs
  go_enter Try.func86, Try.ntmps86
  go_wp2
  go_loopw [1, 5] (fun a i wr => ∃ (k : Nat) (q : Int), k ≤ ls.length ∧ i = .int .i64 k ∧ a = .int .i64 q ∧ 0 ≤ q ∧ q ≤ 1010000000 ∧ Hid (q = nxL m (ls.take k)) ∧ Below w.heap.size w wr)
    (fun _ i _ => ls.length - (intOf i).toNat)
  case atStart => exact ⟨0, m, Nat.zero_le _, rfl, rfl, hm0, by omega, by show m = nxL m (ls.take 0); simp [nxL, sumL], Below.refl _ _⟩
  case round =>
    obtain ⟨k, q, hk, rfl, rfl, hq0, hq1, hq, hB⟩ := hrel
    by_cases hlt : k < ls.length
    · obtain ⟨x, hx⟩ : ∃ x, ls[k]? = some x := ⟨_, List.getElem?_eq_getElem hlt⟩
      obtain ⟨b, o, rfl, hbl, hc⟩ := (hr.keep hB).cellAt (k := k) (u := Leaf.cell x) (by rw [List.getElem?_map, hx]; rfl)
      unfold Leaf.cell at hc
      have h1 := (HL.out k x hx).keep hB
      rw [← hq.out] at h1
      have h3 := HL2.out x (List.mem_of_getElem? hx)
      have hqk : Hid (nxL m (ls.take (k + 1)) = q + (x.es.length : Int) * 2) := by
        rw [hq.out, List.take_add_one, hx]
        show nxL m (ls.take k ++ [x]) = _
        unfold nxL
        rw [sumL_snoc]; omega
      have hqb : Hid (nxL m (ls.take (k + 1)) ≤ 1010000000) := by
        have := sumL_take ls (k + 1)
        have := HM.out
        show m + ((sumL (ls.take (k + 1)) : Nat) : Int) * 2 ≤ 1010000000
        omega
      clear hx
      have hge : ¬ q + (x.es.length : Int) * 2 < 0 := by omega
      go_wp2_with fail
      refine (heldEntryS_marks x.A x.es.length x.c q _ h1 h3 hq0 (by omega)).mono ?_
      rintro e w2 ⟨rfl, hb⟩
      go_wp2
      go_roundw
      case rel => exact ⟨k + 1, q + (x.es.length : Int) * 2, by omega, by go_num, rfl, by omega, by have := hqk.out; have := hqb.out; omega, hqk.out.symm, below_next hB hb⟩
      case measure => simp [intOf]; omega
    · have hkn : k = ls.length := by omega
      go_wp2
      go_ret
      have h1 := hq.out
      rw [hkn, List.take_length] at h1
      exact ⟨ret_int h1, hB⟩

set_option maxHeartbeats 2000000 in
theorem heldTable_marks (T : Tab) (m : Int) (w : World) (hr : RdT w (mkT m T)) (hd : T.D.length ≤ 1048576) (hn : T.L.length ≤ 1048576) (hl2 : ∀ l ∈ T.L, l.es.length ≤ 1048576) (hs : sumL T.L ≤ 1048576) (hm0 : 0 ≤ m) (hm1 : m ≤ 100000000) :
    Calls Try.prog 37 #[tabV T, .int .i64 m] w fun e w' => e = .returned (.int .i64 (nxT m T)) ∧ Below w.heap.size w w' := by
  have HL2 := Lib.hid hl2
  have HM := Lib.hid hs
  have hrd := hr.d
  have hrr := hr.r
  have hrl : ∀ (j : Nat) (x : Leaf), T.L[j]? = some x → Rd w 2 x.A x.es.length (J cEntry (mksEntry (nxL (m + T.D.length) (T.L.take j)) x.es.length)) := by
    intro j x hx
    have := hr.l j _ (mkLs_get hx)
    simp only [mksEntry_length] at this
    exact this
  simp only [mkT, marks_length, mkLs_len, mkLs_cells] at hrd hrr
  have HRL := Lib.hid hrl
  have B0 := Box.new w 27 #[.slice T.Ad T.D.length T.cd, .slice T.Al T.L.length T.cl]
  have HB0 := Lib.hid B0
  have hnx : ¬ nxL (m + T.D.length) T.L < 0 := by unfold nxL; omega
  have hnd : ¬ m + (T.D.length : Int) < 0 := by omega
  clear hl2 hs hrl B0
  go_enter Try.func37, Try.ntmps37
  go_wp2_with fail
  refine (heldIntS_marks _ _ _ m _ (hrd.keep (below_alloc _ _)) (by omega) (by omega) (by omega)).mono ?_
  rintro e w1 ⟨rfl, hb⟩
  have C0 := (HB0.out.keep hb).cell
  have Hb := Lib.hid (below_next (below_alloc w _) hb)
  clear hb
  go_wp2_with fail
  refine (heldEntrySS_marks _ _ T.L _ _ (hrr.keep Hb.out) (fun j x hx => (HRL.out j x hx).keep Hb.out) hn HL2.out HM.out (by omega) (by omega)).mono ?_
  rintro e w2 ⟨rfl, hb⟩
  go_wp2
  go_ret
  exact ⟨rfl, below_next Hb.out hb⟩
end Go.Proofs.Ytkgpdiajnjekcaa
