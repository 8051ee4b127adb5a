/- Contract of mapPage: the entry of a page of a table that lies in a variable. Good tables. -/
import Derived.Test.YtaaocnfbbajphaaTj
import Derived.Test.YtaaocnfbbajphaaSe
import Derived.Test.YtaaocnfbbajphaaTn
import Derived.Deep.RegionLaw
import Derived.Deep.DrawnRows
namespace Go.Proofs.Ytaaocnfbbajphaa
open Go.RowKit
set_option linter.unusedVariables false
set_option linter.unusedSimpArgs false
attribute [local go_sem ↓] Go.wp_at_zero Go.wp_at_succ

/-- a table that lies in the variable g -/
def tvT (g : Nat) (T : Tab) : List Thing := bx 27 2 g [.slice T.Ad T.D.length T.cd, .slice T.Al T.L.length T.cl] :: T.things
theorem tvT_rows (g : Nat) (T : Tab) : tvT g T = bx 27 2 g [.slice T.Ad T.D.length T.cd, .slice T.Al T.L.length T.cl] :: ti T.Ad T.D.length T.cd T.D :: rowsT T.Al T.cl T.L := rfl
theorem tv_in {W0 w : World} {P : List Thing} {T : Tab} {g : Nat} (S : Sep W0 w (P ++ T.things ++ [bx 27 2 g [.slice T.Ad T.D.length T.cd, .slice T.Al T.L.length T.cl]])) : Sep W0 w (P ++ tvT g T) := by
  refine S.perm ?_
  rw [List.append_assoc]
  refine List.Perm.append_left P ?_
  exact List.perm_append_comm
theorem tv_box {W0 w : World} {P : List Thing} {T : Tab} {g : Nat} (S : Sep W0 w (P ++ tvT g T)) : Own w W0.heap.size (bx 27 2 g [.slice T.Ad T.D.length T.cd, .slice T.Al T.L.length T.cl]) :=
  Sep.ownMid (Q := []) (M := tvT g T) (by rw [List.append_nil]; exact S) 0 rfl
theorem tv_rd {W0 w : World} {P : List Thing} {T : Tab} {g : Nat} (S : Sep W0 w (P ++ tvT g T)) : RdT w T :=
  Sep.rdT (Sep.tail (Sep.mid (P := P) (Q := []) (M := tvT g T) (by rw [List.append_nil]; exact S)))
theorem tv_things {W0 w : World} {P : List Thing} {T : Tab} {g : Nat} (S : Sep W0 w (P ++ tvT g T)) : Sep W0 w T.things :=
  Sep.tail (Sep.mid (P := P) (Q := []) (M := tvT g T) (by rw [List.append_nil]; exact S))
/-- the entry of a leaf written -/
theorem tv_put {W0 w w' : World} {P : List Thing} {T : Tab} {g : Nat} (S : Sep W0 w (P ++ tvT g T)) {j : Nat} {l : Leaf} (hl : T.L[j]? = some l) (es' : List REntry) (hlen : es'.length = l.es.length) (hg : w.grownBy w' (blk l.A))
    (ho : Own w' W0.heap.size (tsEntry l.A l.es.length l.c es')) : Sep W0 w' (P ++ tvT g ⟨T.Ad, T.cd, T.D, T.Al, T.cl, T.L.set j ⟨l.A, l.c, es'⟩⟩) := by
  have h1 : Sep W0 w ((P ++ [bx 27 2 g [.slice T.Ad T.D.length T.cd, .slice T.Al T.L.length T.cl], ti T.Ad T.D.length T.cd T.D]) ++ rowsT T.Al T.cl T.L ++ []) := by
    rw [List.append_nil, List.append_assoc]; exact S
  have h2 := rows_write h1 j hl hg es' hlen ho
  rw [List.append_nil, List.append_assoc] at h2
  rw [tvT_rows, List.length_set]
  exact h2
theorem tv_putE {T : Tab} {j : Nat} {l : Leaf} (hl : T.L[j]? = some l) (es' : List REntry) : (⟨T.Ad, T.cd, T.D, T.Al, T.cl, T.L.set j ⟨l.A, l.c, es'⟩⟩ : Tab).E = T.E.set j es' := by
  simp [Tab.E, List.map_set]
/-- a directory written -/
theorem tv_dir {W0 w w' : World} {P : List Thing} {T : Tab} {g : Nat} (S : Sep W0 w (P ++ tvT g T)) (D' : List Int) (hlen : D'.length = T.D.length) (hg : w.grownBy w' (blk T.Ad))
    (ho : Own w' W0.heap.size (ti T.Ad T.D.length T.cd D')) : Sep W0 w' (P ++ tvT g ⟨T.Ad, T.cd, D', T.Al, T.cl, T.L⟩) := by
  have h1 : Sep W0 w (P ++ tvT g T ++ []) := by rw [List.append_nil]; exact S
  have h2 := h1.writeMid 1 (t := ti T.Ad T.D.length T.cd T.D) rfl hg (I D') ho
  rw [List.append_nil] at h2
  rw [tvT_rows, hlen]
  exact h2
/-- an entry put where it lies -/
theorem own_entry {w : World} {B g2 c r : Nat} {es : List REntry} (h : Own w B (tsEntry (some ⟨g2, 0, none⟩) 4 c es)) (hr : r < 4) (e : REntry) :
    (∃ x y, w.cell? ⟨g2, r * 2, none⟩ = some (.int .i64 x) ∧ w.cell? ⟨g2, r * 2 + 1, none⟩ = some (.bool y)) ∧ (∀ q, w.frozen? ⟨g2, q, none⟩ = false) ∧
    Own ((w.setCell ⟨g2, r * 2, none⟩ (.int .i64 e.f0)).setCell ⟨g2, r * 2 + 1, none⟩ (.bool e.f1)) B (tsEntry (some ⟨g2, 0, none⟩) 4 c (es.set r e)) ∧
    w.grownBy ((w.setCell ⟨g2, r * 2, none⟩ (.int .i64 e.f0)).setCell ⟨g2, r * 2 + 1, none⟩ (.bool e.f1)) (some g2) := by
  have hl := h.rd.lenS posEntry cEntry_len
  obtain ⟨e0, hx⟩ : ∃ e0, es[r]? = some e0 := ⟨_, List.getElem?_eq_getElem (by simp only at hl; omega)⟩
  have P := own_putAll (cEntry e) w _ (r * 2) h
  rw [J_set cEntry_len es r (by simp only at hl; omega) e] at P
  refine ⟨⟨e0.f0, e0.f1, ?_, ?_⟩, fun q => World.ownsRow.frozenAt h q, ?_, ?_⟩
  · exact own_cellS (j := 0) cEntry_len h hx hr (by decide) rfl
  · exact own_cellS (j := 1) cEntry_len h hx hr (by decide) rfl
  · exact P.1
  · exact P.2

/-- whether an entry may be written, put where it lies -/
theorem own_entryW {w : World} {B g2 c r : Nat} {es : List REntry} {e : REntry} (h : Own w B (tsEntry (some ⟨g2, 0, none⟩) 4 c es)) (hr : r < 4) (hx : es[r]? = some e) (b : Bool) :
    w.cell? ⟨g2, r * 2 + 1, none⟩ = some (.bool e.f1) ∧ (∀ q, w.frozen? ⟨g2, q, none⟩ = false) ∧
    Own (w.setCell ⟨g2, r * 2 + 1, none⟩ (.bool b)) B (tsEntry (some ⟨g2, 0, none⟩) 4 c (es.set r ⟨e.f0, b⟩)) ∧ w.grownBy (w.setCell ⟨g2, r * 2 + 1, none⟩ (.bool b)) (some g2) := by
  have hl := h.rd.lenS posEntry cEntry_len
  have hs := World.ownsRow.stored h (r * 2 + 1) (.bool b)
  refine ⟨own_cellS (j := 1) cEntry_len h hx hr (by decide) rfl, fun q => World.ownsRow.frozenAt h q, ?_, hs.2⟩
  have := hs.1
  rw [J_set1 cEntry_len es r 1 (by simp only at hl; omega) (by decide) (.bool b) ⟨e.f0, b⟩ (by intro x hx2; rw [hx] at hx2; obtain rfl := Option.some.inj hx2; rfl)] at this
  exact this
/-- is the page one that can be mapped to the frame -/
noncomputable def mapOk (D : List Int) (E : List (List REntry)) (p f : Int) : Bool := inB p 0 15 && (inB f 0 15 && (frO D E p.toNat == -1))
set_option maxRecDepth 100000 in
set_option maxHeartbeats 4000000 in
theorem mapPage_no (W0 : World) (P : List Thing) (g : Nat) (T : Tab) (p f : Int) (wr : Bool) (w : World) (S : Sep W0 w (P ++ tvT g T)) (hg : Good T.D T.E) (hno : mapOk T.D T.E p f = false) :
    Calls Try.prog 75 #[.pointer (some ⟨g, 0, none⟩), .int .i64 p, .int .i64 f, .bool wr] w fun e w' => e = .returned (.bool false) ∧ Sep W0 w' (P ++ tvT g T) := by
  have C0 := own_box (tv_box S)
  have HS := Lib.hid S
  have HG := Lib.hid hg
  clear S hg
  unfold mapOk at hno
  cases h1 : inB p 0 15
  all_goals have H1 := Lib.hid h1
  all_goals rw [h1] at hno
  · clear h1 hno
    go_enter Try.func75, Try.ntmps75
    go_wp2_with fail
    refine (isPage_eq H1.out _).mono ?_
    rintro e w1 ⟨rfl, rfl⟩
    go_wp2
    go_ret
    exact ⟨rfl, HS.out⟩
  · obtain ⟨q, rfl, hq⟩ := pageOk_nat (D := []) (E := []) h1
    clear h1
    cases h2 : inB f 0 15
    all_goals have H2 := Lib.hid h2
    all_goals rw [h2] at hno
    · clear h2 hno
      go_enter Try.func75, Try.ntmps75
      go_wp2_with fail
      refine (isPage_eq H1.out _).mono ?_
      rintro e w1 ⟨rfl, rfl⟩
      go_wp2_with fail
      refine (isFrame_eq H2.out _).mono ?_
      rintro e w1 ⟨rfl, rfl⟩
      go_wp2
      go_ret
      exact ⟨rfl, HS.out⟩
    · rw [Int.toNat_natCast, Bool.true_and, Bool.true_and] at hno
      obtain ⟨x, hx⟩ : ∃ x, frO T.D T.E q = x := ⟨_, rfl⟩
      rw [hx] at hno
      have HX := Lib.hid hx
      have hne : (x != -1) = true := by simpa using hno
      clear h2 hno hx
      go_enter Try.func75, Try.ntmps75
      go_wp2_with fail
      refine (isPage_eq H1.out _).mono ?_
      rintro e w1 ⟨rfl, rfl⟩
      go_wp2_with fail
      refine (isFrame_eq H2.out _).mono ?_
      rintro e w1 ⟨rfl, rfl⟩
      go_wp2_with fail
      refine (frameOf_eq T q _ (tv_rd HS.out) HG.out hq _ HX.out).mono ?_
      rintro e w1 ⟨rfl, hb⟩
      go_wp2
      go_ret
      exact ⟨rfl, HS.out.below hb⟩

set_option maxRecDepth 100000 in
set_option maxHeartbeats 4000000 in
theorem mapPage_old (W0 : World) (P : List Thing) (g : Nat) (T : Tab) (q : Nat) (f : Int) (wr : Bool) (w : World) (S : Sep W0 w (P ++ tvT g T)) (hg : Good T.D T.E) (hq : q < 16) (hf : inB f 0 15 = true) (hno : frO T.D T.E q = -1) (hd : dirOf T.D q ≠ -1) :
    Calls Try.prog 75 #[.pointer (some ⟨g, 0, none⟩), .int .i64 q, .int .i64 f, .bool wr] w fun e w' => ∃ T' : Tab, e = .returned (.bool true) ∧ T'.D = mapD T.D T.E q ∧ T'.E = mapL T.D T.E q ⟨f, wr⟩ ∧ Sep W0 w' (P ++ tvT g T') := by
  have HS := Lib.hid S
  have HG := Lib.hid hg
  have HF := Lib.hid hf
  have HNO := Lib.hid hno
  have HDN := Lib.hid hd
  have HP := Lib.hid (show inB (q : Int) 0 15 = true from inB_iff.2 (by omega))
  obtain ⟨Ad, cd, D, Al, cl, L⟩ := T
  have h4 := hg.len
  dsimp only at h4 hd
  obtain ⟨b, o, rfl, hbl, hcd⟩ := (tv_rd S).dirs h4
  obtain ⟨j, b2, o2, l, e, h1, h2, h3, hb2, h5, h51, h6, _, _, _⟩ := entry_at (tv_rd S) hg hq HDN.out
  dsimp only at h1 h2
  have hgt := dir_get h4 hq
  rw [h1] at hgt
  obtain ⟨a, ha⟩ : ∃ a, a = q / 4 := ⟨_, rfl⟩
  rw [← ha] at hgt
  have hc := hcd.out a _ hgt
  have hqa : (q : Int) / 4 = (a : Int) := by omega
  have ha4 : (a : Int) < (D.length : Int) := by omega
  have hne : ((j : Int) == -1) = false := by simp <;> omega
  obtain ⟨lA, lc, es⟩ := l
  dsimp only at h2 h3 h5
  subst h3
  have C0 := own_box (tv_box S)
  dsimp only at C0
  have hrow : Own w W0.heap.size (tsEntry (some ⟨b2, o2, none⟩) es.length lc es) := by
    have h7 : Sep W0 w (P ++ tvT g ⟨some ⟨b, o, none⟩, cd, D, Al, cl, L⟩ ++ []) := by rw [List.append_nil]; exact S
    exact h7.ownMid (j + 3) (t := tL ⟨some ⟨b2, o2, none⟩, lc, es⟩) (by simp [tvT, Tab.things, h2])
  obtain ⟨g2, hg2, _, _⟩ := own_someS hrow (by omega)
  simp only [Option.some.injEq, Addr.mk.injEq, and_true] at hg2
  obtain ⟨rfl, rfl⟩ := hg2
  have HROW := Lib.hid hrow
  have HH1 := Lib.hid h1
  have HH2 := Lib.hid h2
  have HH5 := Lib.hid h5
  have HH4 := Lib.hid h4
  have HQA := Lib.hid hqa
  have HC := Lib.hid hc
  have HC0 := Lib.hid C0
  clear S hg hf hno hd h1 h2 h5 h51 h6 hgt ha hcd h4 hqa hrow hc
  go_enter Try.func75, Try.ntmps75
  go_wp2_with fail
  refine (isPage_eq HP.out _).mono ?_
  rintro e w1 ⟨rfl, rfl⟩
  go_wp2_with fail
  refine (isFrame_eq HF.out _).mono ?_
  rintro e w1 ⟨rfl, rfl⟩
  go_wp2_with fail
  refine (frameOf_eq _ q _ (tv_rd HS.out) HG.out hq _ HNO.out).mono ?_
  rintro e w1 ⟨rfl, hb⟩
  have HS1 := Lib.hid (HS.out.below hb)
  have hc := (hb.cell (p := ⟨b, o + a, none⟩) hbl).trans HC.out
  have hbl1 := Nat.lt_of_lt_of_le hbl hb.size
  have C1 := own_box (tv_box HS1.out)
  dsimp only at C1
  have HROW1 := Lib.hid (HROW.out.mono hb)
  have hqa := HQA.out
  clear hb C0
  go_wp2_with fail
  refine (entryOf_some _ q j _ _ (q % 4) _ _ (tv_rd HS1.out) HH4.out hq HH1.out HH2.out rfl HH5.out rfl).mono ?_
  rintro e w2 ⟨rfl, hb⟩
  have HS2 := Lib.hid (HS1.out.below hb)
  have hrow2 := HROW1.out.mono hb
  rw [HH5.out] at hrow2
  have HE := Lib.hid (own_entry hrow2 (Nat.mod_lt q (by decide)) ⟨f, wr⟩)
  obtain ⟨⟨x0, y0, hx0, hy0⟩, hfz, _, _⟩ := own_entry hrow2 (Nat.mod_lt q (by decide)) ⟨f, wr⟩
  clear hb hrow2
  go_wp2
  go_ret
  have hd' : dirOf D q ≠ -1 := by have := HH1.out; omega
  have hS3 := tv_put HS2.out (j := j) (l := ⟨some ⟨_, 0, none⟩, lc, es⟩) HH2.out (es.set (q % 4) ⟨f, wr⟩) (by simp) HE.out.2.2.2 (by
    have := HE.out.2.2.1
    show World.ownsRow _ _ _ _ (.slice _ es.length lc) es.length _
    rw [HH5.out]; exact this)
  refine ⟨_, rfl, ?_, ?_, hS3⟩
  · show D = mapD D _ q
    rw [mapD, if_neg hd']
  · rw [tv_putE HH2.out, mapL, if_neg hd']
    have h1 := HH1.out
    show (Tab.E _).set j _ = _
    rw [h1, Int.toNat_natCast]
    have h8 : (Tab.E ⟨some ⟨b, o, none⟩, cd, D, Al, cl, L⟩)[j]? = some es := by simp only [Tab.E, List.getElem?_map, HH2.out]; rfl
    rw [h8]; rfl

theorem Rd.one1 (w : World) (o : Obj) (x : Value) (t : TypeId) : Rd ((w.alloc o).alloc (.cells #[x] t)) 1 (some ⟨w.heap.size + 1, 0, none⟩) 1 [x] := by
  have := Rd.one (w.alloc o) x t
  rwa [size_alloc] at this
/-- one leaf more -/
theorem tv_app {W0 w w1 w3 : World} {P : List Thing} {T : Tab} {g c' : Nat} {A' : Option Addr} (S : Sep W0 w (P ++ tvT g T)) (l : Leaf) (hb1 : Below w.heap.size w w1) (ho : Own w1 w.heap.size (tL l)) (o : Obj) (hg : (w1.alloc o).grownBy w3 (blk T.Al))
    (hat : blk A' = blk T.Al ∨ blk A' = some (w1.alloc o).heap.size) (hown3 : w3.ownsRow W0.heap.size 71 1 (.slice A' (T.L.length + 1) c') (T.L.length + 1) (T.L.map Leaf.cell ++ [l.cell])) :
    (∀ i, w3.cell? ⟨g, i, none⟩ = #[.slice T.Ad T.D.length T.cd, .slice T.Al T.L.length T.cl][i]?) ∧ (∀ i, w3.frozen? ⟨g, i, none⟩ = false) ∧
    Sep W0 (w3.setCell ⟨g, 1, none⟩ (.slice A' (T.L.length + 1) c')) (P ++ tvT g ⟨T.Ad, T.cd, T.D, A', c', T.L ++ [l]⟩) := by
  have S2 := (S.new hb1 ho).below (below_alloc w1 o)
  have S3 : Sep W0 (w1.alloc o) (P ++ ([bx 27 2 g [.slice T.Ad T.D.length T.cd, .slice T.Al T.L.length T.cl], ti T.Ad T.D.length T.cd T.D, tR T.Al T.L.length T.cl T.L] ++ (T.L ++ [l]).map tL) ++ []) := by
    rw [List.append_nil, List.map_append, ← List.append_assoc [_, _, _], ← List.append_assoc P]
    exact S2
  have hi : (P ++ ([bx 27 2 g [.slice T.Ad T.D.length T.cd, .slice T.Al T.L.length T.cl], ti T.Ad T.D.length T.cd T.D, tR T.Al T.L.length T.cl T.L] ++ (T.L ++ [l]).map tL) ++ [])[P.length + 2]? = some (tR T.Al T.L.length T.cl T.L) := by
    rw [List.append_nil, List.getElem?_append_right (by omega), Nat.add_sub_cancel_left]; rfl
  have S4 := S3.app (P.length + 2) (t' := tR A' (T.L.length + 1) c' (T.L ++ [l])) hi hg hat (by
    show w3.ownsRow _ _ _ _ _ ((T.L ++ [l]).map Leaf.cell)
    rw [List.map_append]; exact hown3)
  have S5 : Sep W0 w3 (P ++ ([bx 27 2 g [.slice T.Ad T.D.length T.cd, .slice T.Al T.L.length T.cl], ti T.Ad T.D.length T.cd T.D, tR A' (T.L.length + 1) c' (T.L ++ [l])] ++ (T.L ++ [l]).map tL) ++ []) := by
    rw [List.append_nil, List.set_append_right _ _ (by omega), Nat.add_sub_cancel_left] at S4
    rw [List.append_nil]
    exact S4
  have hbx := S5.ownMid 0 rfl
  have hs := World.ownsRow.stored hbx 1 (.slice A' (T.L.length + 1) c')
  have S6 := S5.writeMid 0 rfl hs.2 _ hs.1
  refine ⟨fun i => own_box hbx i, own_free hbx, ?_⟩
  rw [List.append_nil] at S6
  rw [tvT_rows, rowsT]
  have e : (T.L ++ [l]).length = T.L.length + 1 := by simp
  rw [e]
  exact S6
set_option maxRecDepth 100000 in
set_option maxHeartbeats 4000000 in
theorem mapPage_new (W0 : World) (P : List Thing) (g : Nat) (T : Tab) (q : Nat) (f : Int) (wr : Bool) (w : World) (S : Sep W0 w (P ++ tvT g T)) (hg : Good T.D T.E) (hq : q < 16) (hf : inB f 0 15 = true) (hd : dirOf T.D q = -1) :
    Calls Try.prog 75 #[.pointer (some ⟨g, 0, none⟩), .int .i64 q, .int .i64 f, .bool wr] w fun e w' => ∃ T' : Tab, e = .returned (.bool true) ∧ T'.D = mapD T.D T.E q ∧ T'.E = mapL T.D T.E q ⟨f, wr⟩ ∧ Sep W0 w' (P ++ tvT g T') := by
  have HS := Lib.hid S
  have HG := Lib.hid hg
  have HF := Lib.hid hf
  have HDN := Lib.hid hd
  have HNO : Hid (frO T.D T.E q = -1) := by show frO T.D T.E q = -1; simp [frO, getE, entO_none hd]
  have HP := Lib.hid (show inB (q : Int) 0 15 = true from inB_iff.2 (by omega))
  obtain ⟨i1, hi1, hy0, hy1, hy2⟩ := info_parts Try.info71
  have HI1 := Lib.hid hi1
  have HY0 := Lib.hid hy0
  have HY1 := Lib.hid hy1
  have HY2 := Lib.hid hy2
  obtain ⟨Ad, cd, D, Al, cl, L⟩ := T
  have h4 := hg.len
  have hL4 := hg.len4
  rw [Tab.E_len] at hL4
  dsimp only at h4 hd hL4
  have hrow : Own w W0.heap.size (ti Ad D.length cd D) := by
    have h7 : Sep W0 w (P ++ tvT g ⟨Ad, cd, D, Al, cl, L⟩ ++ []) := by rw [List.append_nil]; exact S
    exact h7.ownMid 1 rfl
  obtain ⟨b, rfl⟩ := own_some hrow (by omega)
  obtain ⟨b', o, hbo, hbl, hcd⟩ := (tv_rd S).dirs h4
  simp only [Option.some.injEq, Addr.mk.injEq, and_true] at hbo
  obtain ⟨rfl, rfl⟩ := hbo
  have hgt := dir_get h4 hq
  rw [hd] at hgt
  obtain ⟨a, ha⟩ : ∃ a, a = q / 4 := ⟨_, rfl⟩
  rw [← ha] at hgt
  have hc := hcd.out a _ hgt
  rw [Nat.zero_add] at hc
  have hqa : (q : Int) / 4 = (a : Int) := by omega
  have ha4 : (a : Int) < (D.length : Int) := by omega
  have ha0 : (0 : Int) ≤ (a : Int) := by omega
  have C0 := own_box (tv_box S)
  dsimp only at C0
  have HH4 := Lib.hid h4
  have HQA := Lib.hid hqa
  have HA := Lib.hid ha
  have HC := Lib.hid hc
  clear S hg hf hd hgt ha hcd h4 hqa hrow hc hi1 hy0 hy1 hy2
  go_enter Try.func75, Try.ntmps75
  go_wp2_with fail
  refine (isPage_eq HP.out _).mono ?_
  rintro e w1 ⟨rfl, rfl⟩
  go_wp2_with fail
  refine (isFrame_eq HF.out _).mono ?_
  rintro e w1 ⟨rfl, rfl⟩
  go_wp2_with fail
  refine (frameOf_eq _ q _ (tv_rd HS.out) HG.out hq _ HNO.out).mono ?_
  rintro e w1 ⟨rfl, hb⟩
  have HS1 := Lib.hid (HS.out.below hb)
  have hc := (hb.cell (p := ⟨b, a, none⟩) hbl).trans HC.out
  have hbl1 := Nat.lt_of_lt_of_le hbl hb.size
  have C1 := own_box (tv_box HS1.out)
  have Z1 := own_lt (tv_box HS1.out)
  dsimp only at C1
  have hrow1 : Own w1 W0.heap.size (ti (some ⟨b, 0, none⟩) D.length cd D) := by
    have h7 : Sep W0 w1 (P ++ tvT g ⟨some ⟨b, 0, none⟩, cd, D, Al, cl, L⟩ ++ []) := by rw [List.append_nil]; exact HS1.out
    exact h7.ownMid 1 rfl
  obtain ⟨_, hfz, hO2, hG2⟩ := own_store hrow1 (k := a) (by omega) (L.length : Int)
  have S2 := tv_dir (HS1.out) (D.set a (L.length : Int)) (by simp) hG2 (by simpa using hO2)
  have hqa := HQA.out
  have HS2 := Lib.hid S2
  have hwa : IntKind.i64.wrap (a : Int) = (a : Int) := IntWalk.i64_in _ (by omega)
  clear hb C0 hrow1 hO2 hG2 S2
  go_wp2_with fail
  go_region_law (fail)
  all_goals
    have HS3 := Lib.hid (HS2.out.below (Below.drew (Below.refl _ _)))
    generalize (w1.setCell ⟨b, a, none⟩ (.int .i64 (L.length : Int))).drew = w2 at HS3 ⊢
    have C2 := own_box (tv_box HS3.out)
    have Z2 := own_lt (tv_box HS3.out)
    dsimp only at C2
    rw [List.length_set] at C2
    have hrows : Own w2 W0.heap.size (tR Al L.length cl L) := by
      have h7 : Sep W0 w2 (P ++ tvT g ⟨some ⟨b, 0, none⟩, cd, D.set a (L.length : Int), Al, cl, L⟩ ++ []) := by rw [List.append_nil]; exact HS3.out
      exact h7.ownMid 2 rfl
    have HROWS := Lib.hid hrows
    have HBS := Lib.hid (HS3.out.bel.size)
    clear hrows C1 Z1 hc hbl1 hwa hfz
    go_wp2_with (at_builtin; refine wpList_app _ rfl _ _ 25 rfl W0.heap.size 71 i1 (.slice none 0 0) 1 24 Try.underlying25 HI1.out HY0.out HY1.out HY2.out rfl (by decide) _ _ _ _ rfl (World.ownsRow.alloc (World.ownsRow.alloc HROWS.out _) _) _ _ _ _ rfl (Rd.one1 _ _ _ _) (by simp [Value.oneCell']) (by unfold maxLen; omega) (by omega) (by simp; have := HBS.out; omega) ?_; intro A' c' w3 hown hgrow hat; obtain ⟨C3, F3, S4⟩ := tv_app HS3.out ⟨some ⟨w2.heap.size, 0, none⟩, 4, List.replicate 4 noE⟩ (below_alloc w2 (.cells #[.int .i64 (-1), .bool false, .int .i64 (-1), .bool false, .int .i64 (-1), .bool false, .int .i64 (-1), .bool false] 67)) (World.ownsRow_lit w2 #[.int .i64 (-1), .bool false, .int .i64 (-1), .bool false, .int .i64 (-1), .bool false, .int .i64 (-1), .bool false] 4 (Nat.le_refl _) (by decide) rfl) _ hgrow hat hown; dsimp only at C3 S4; rw [List.length_set] at C3; have HS4 := Lib.hid S4; clear S4 hown hgrow hat)
    have hgl : (L ++ [(⟨some ⟨w2.heap.size, 0, none⟩, 4, List.replicate 4 noE⟩ : Leaf)])[L.length]? = some ⟨some ⟨w2.heap.size, 0, none⟩, 4, List.replicate 4 noE⟩ := by simp
    have HGL := Lib.hid hgl
    have hd2 : dirOf (D.set a (L.length : Int)) q = (L.length : Int) := by
      unfold dirOf; rw [← HA.out, List.getElem?_set_self (by omega)]; rfl
    have HD2 := Lib.hid hd2
    have hcall := entryOf_some ⟨some ⟨b, 0, none⟩, cd, D.set a (L.length : Int), A', c', L ++ [⟨some ⟨w2.heap.size, 0, none⟩, 4, List.replicate 4 noE⟩]⟩ q L.length w2.heap.size 0 (q % 4) ⟨some ⟨w2.heap.size, 0, none⟩, 4, List.replicate 4 noE⟩ _ (tv_rd HS4.out) (by simpa using HH4.out) hq hd2 hgl rfl (by simp) rfl
    simp only [tabV, List.length_set, List.length_append, List.length_singleton] at hcall
    have HCALL := Lib.hid hcall
    clear hgl hd2 hcall
    go_wp2_with fail
    refine HCALL.out.mono ?_
    rintro e w5 ⟨rfl, hb⟩
    have HS5 := Lib.hid (HS4.out.below hb)
    have hrow5 : Own w5 W0.heap.size (tsEntry (some ⟨w2.heap.size, 0, none⟩) 4 4 (List.replicate 4 noE)) := by
      have h7 : Sep W0 w5 (P ++ tvT g ⟨some ⟨b, 0, none⟩, cd, D.set a (L.length : Int), A', c', L ++ [⟨some ⟨w2.heap.size, 0, none⟩, 4, List.replicate 4 noE⟩]⟩ ++ []) := by rw [List.append_nil]; exact HS5.out
      exact h7.ownMid (L.length + 3) (t := tL ⟨some ⟨w2.heap.size, 0, none⟩, 4, List.replicate 4 noE⟩) (by simp [tvT, Tab.things])
    have HE := Lib.hid (own_entry hrow5 (Nat.mod_lt q (by decide)) ⟨f, wr⟩)
    obtain ⟨⟨x0, y0, hx0, hy0⟩, hfz, _, _⟩ := own_entry hrow5 (Nat.mod_lt q (by decide)) ⟨f, wr⟩
    clear hb hrow5
    go_wp2
    go_ret
    have hS6 := tv_put HS5.out (j := L.length) (l := ⟨some ⟨w2.heap.size, 0, none⟩, 4, List.replicate 4 noE⟩) HGL.out ((List.replicate 4 noE).set (q % 4) ⟨f, wr⟩) (by simp) HE.out.2.2.2 HE.out.2.2.1
    refine ⟨_, rfl, ?_, ?_, hS6⟩
    · show D.set a (L.length : Int) = mapD D _ q
      rw [mapD, if_pos HDN.out, ← HA.out, Tab.E_len]
    · rw [tv_putE HGL.out, mapL, if_pos HDN.out]
      show (List.map Leaf.es (L ++ [_])).set L.length _ = List.map Leaf.es L ++ [_]
      rw [List.map_append, List.set_append_right _ _ (by simp), List.length_map, Nat.sub_self]
      rfl
end Go.Proofs.Ytaaocnfbbajphaa
