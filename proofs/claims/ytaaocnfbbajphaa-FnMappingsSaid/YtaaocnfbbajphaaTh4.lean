/- Contract of UnmapPage in the reference. Tables not too large. -/
import Derived.Test.YtaaocnfbbajphaaTg4
namespace Go.Proofs.Ytaaocnfbbajphaa
open Go.RowKit
set_option linter.unusedVariables false
set_option linter.unusedSimpArgs false
attribute [local go_sem ↓] Go.wp_at_zero Go.wp_at_succ

section
variable {P : Program} (w : World)
/-- append onto a slice of the call's own, whatever the source: a step of a region that draws -/
theorem step_app {ops : Array Oper} {o : Oper} {a : Act} {K : Act → World → Prop} {Q : Exit → Act → World → Prop} {E : Prop} (hgd : o.guard = none) (s x : Operand) (t : TypeId)
    (ho : o.op = .call { callee := .builtin .append, args := #[s, x], argTypes := #[t, t] })
    (base : Nat) (e : TypeId) (i : TypeInfo) (z : Value) (size bytes : Nat) (ht : P.underlying t = some (.slice e)) (hi : P.info? e = some i) (hz : i.zero = some z)
    (hsize : i.size = size) (hby : i.bytes = bytes) (hzs : z.cells.size = size) (hsz : 0 < size)
    (A : Option Addr) (n c : Nat) (xs : List Value) (hs : a.eval s = .slice A n c) (hown : w.ownsRow base e size (.slice A n c) n xs)
    (A2 : Option Addr) (m c2 : Nat) (news : List Value) (hx : a.eval x = .slice A2 m c2) (hr : Rd w size A2 m news) (h1 : ∀ u ∈ news, u.oneCell' = true)
    (h63 : n + m ≤ maxLen) (hbytes : (n + m) * bytes ≤ 140737488355328) (hbase : base ≤ w.heap.size)
    (h : ∀ A' c' w', w'.ownsRow base e size (.slice A' (n + m) c') (n + m) (xs ++ news) → w.grownBy w' (blk A) → (blk A' = blk A ∨ blk A' = some w.heap.size) → K (a.put o.dst (.slice A' (n + m) c')) w') :
    if Region.wanted o (yielded ops a.tmps) = true then Oper.wp P o a w K Q else E := by
  have hw : Region.wanted o (yielded ops a.tmps) = true := by simp [Region.wanted, hgd]
  rw [if_pos hw]
  exact wp_app w s x t ho base e i z size bytes ht hi hz hsize hby hzs hsz A n c xs hs hown A2 m c2 news hx hr h1 h63 hbytes hbase h
end
/-- the leaves laid anew, without one -/
theorem tv_cut {W0 w w' : World} {P : List Thing} {Ad Al A' : Option Addr} {cd cl c' g j : Nat} {D : List Int} {L : List Leaf} (S : Sep W0 w (P ++ tvT g ⟨Ad, cd, D, Al, cl, L⟩)) (hj : j < L.length) (hb : Below w.heap.size w w')
    (ho : Own w' w.heap.size (tR A' (L.length - 1) c' (L.eraseIdx j))) :
    (∀ i, w'.cell? ⟨g, i, none⟩ = #[.slice Ad D.length cd, .slice Al L.length cl][i]?) ∧ (∀ i, w'.frozen? ⟨g, i, none⟩ = false) ∧
    Sep W0 (w'.setCell ⟨g, 1, none⟩ (.slice A' (L.length - 1) c')) (P ++ tvT g ⟨Ad, cd, D, A', c', L.eraseIdx j⟩) := by
  have S3 := S.new hb ho
  have hbx := S3.ownMid 0 rfl
  have hs := World.ownsRow.stored hbx 1 (.slice A' (L.length - 1) c')
  have S6 := S3.writeMid 0 rfl hs.2 _ hs.1
  refine ⟨fun i => own_box hbx i, own_free hbx, ?_⟩
  have S7 : Sep W0 (w'.setCell ⟨g, 1, none⟩ (.slice A' (L.length - 1) c')) (P ++ (bx 27 2 g [.slice Ad D.length cd, .slice A' (L.length - 1) c'] :: ti Ad D.length cd D :: tR Al L.length cl L :: L.map tL) ++ [tR A' (L.length - 1) c' (L.eraseIdx j)]) := S6
  have hL : L.map tL = (L.take j).map tL ++ tL L[j] :: (L.drop (j + 1)).map tL := by
    conv => lhs; rw [← List.take_append_drop j L, List.drop_eq_getElem_cons hj]
    rw [List.map_append, List.map_cons]
  have S8 : Sep W0 (w'.setCell ⟨g, 1, none⟩ (.slice A' (L.length - 1) c')) ((P ++ [bx 27 2 g [.slice Ad D.length cd, .slice A' (L.length - 1) c'], ti Ad D.length cd D]) ++ tR Al L.length cl L :: (L.map tL ++ [tR A' (L.length - 1) c' (L.eraseIdx j)])) := by
    simp only [List.append_assoc, List.cons_append, List.nil_append] at S7 ⊢
    exact S7
  have S9 := Sep.drop1 S8
  rw [hL] at S9
  have S10 : Sep W0 (w'.setCell ⟨g, 1, none⟩ (.slice A' (L.length - 1) c')) ((P ++ [bx 27 2 g [.slice Ad D.length cd, .slice A' (L.length - 1) c'], ti Ad D.length cd D] ++ (L.take j).map tL) ++ tL L[j] :: ((L.drop (j + 1)).map tL ++ [tR A' (L.length - 1) c' (L.eraseIdx j)])) := by
    simp only [List.append_assoc, List.cons_append, List.nil_append] at S9 ⊢
    exact S9
  have S11 := Sep.drop1 S10
  rw [tvT_rows, rowsT]
  have e : (L.eraseIdx j).length = L.length - 1 := by rw [List.length_eraseIdx, if_pos hj]
  have e2 : (L.eraseIdx j).map tL = (L.take j).map tL ++ (L.drop (j + 1)).map tL := by rw [List.eraseIdx_eq_take_drop_succ, List.map_append]
  dsimp only
  rw [e, e2]
  refine S11.perm ?_
  simp only [List.append_assoc, List.cons_append, List.nil_append]
  refine List.Perm.append_left P (List.Perm.cons _ (List.Perm.cons _ ?_))
  rw [← List.append_assoc]
  exact List.perm_append_comm (l₂ := [_])

theorem own_zero {w : World} {B j c : Nat} {e : TypeId} {A : Option Addr} {xs : List Value} (h : w.ownsRow B e 1 (.slice A (0 + j) c) (0 + j) ([] ++ xs)) : w.ownsRow B e 1 (.slice A j c) j xs := by
  rw [Nat.zero_add, List.nil_append] at h; exact h
theorem own_cut {w : World} {B n m c : Nat} {A : Option Addr} {L' : List Leaf} {xs : List Value} (hn : n = m) (hx : xs = L'.map Leaf.cell) (h : w.ownsRow B 71 1 (.slice A n c) n xs) : Own w B (tR A m c L') := by
  subst hn hx; exact h
theorem ones_map (L : List Leaf) (j : Nat) : ∀ u ∈ (L.map Leaf.cell).take j, u.oneCell' = true := fun u hu => by
  obtain ⟨l, _, rfl⟩ := List.mem_map.1 (List.mem_of_mem_take hu)
  rfl
theorem ones_mapD (L : List Leaf) (j : Nat) : ∀ u ∈ (L.map Leaf.cell).drop j, u.oneCell' = true := fun u hu => by
  obtain ⟨l, _, rfl⟩ := List.mem_map.1 (List.mem_of_mem_drop hu)
  rfl
set_option maxRecDepth 100000 in
set_option maxHeartbeats 8000000 in
theorem s_UnmapPage_any (T : Tab) (p : Int) (w : World) (hr : RdT w T) (B : Bd T) (hcap : T.D.length ≤ T.cd ∧ T.cd ≤ maxLen) (D : List Int) (E : List (List REntry)) (hD : T.D = D) (hE : T.E = E) :
    Calls Try.prog 15 #[tabV T, .int .i64 p] w fun e w' => ∃ T' : Tab, e = .returned (.tuple #[tabV T', .bool (uR D E p).isSome]) ∧ T'.D = oD (uR D E p) ∧ T'.E = oE (uR D E p) ∧ Bd T' ∧ Sep w w' T'.things := by
  suffices h : Calls Try.prog 15 #[tabV T, .int .i64 p] w fun e w' => ∃ T' : Tab, e = .returned (.tuple #[tabV T', .bool (uR D E p).isSome]) ∧ T'.D = oD (uR D E p) ∧ T'.E = oE (uR D E p) ∧ Sep w w' T'.things from
    h.mono fun e w' ⟨T', h1, h2, h3, h4⟩ => ⟨T', h1, h2, h3, uR_bd h2 h3, h4⟩
  subst hD hE
  obtain ⟨i1, hi1, hy0, hy1, hy2⟩ := info_parts Try.info71
  have HI1 := Lib.hid hi1
  have HY0 := Lib.hid hy0
  have HY1 := Lib.hid hy1
  have HY2 := Lib.hid hy2
  clear hi1 hy0 hy1 hy2
  have HRD := Lib.hid hr
  have HC := Lib.hid hcap
  have S0 := (Sep.start w).new (below_alloc w _) (own_bx w 27 2 #[.slice T.Ad T.D.length T.cd, .slice T.Al T.L.length T.cl] rfl)
  have S1 := S0.new (below_alloc _ _) (own_bx _ 27 2 #[.slice none 0 0, .slice none 0 0] rfl)
  simp only [List.nil_append, List.cons_append, size_alloc] at S1
  have HS1 := Lib.hid S1
  clear S0 S1 hr hcap
  cases h1 : pageOk T.D T.E p
  all_goals have H1 := Lib.hid h1
  · rw [uR_no (hasOk_no h1)]
    clear h1
    go_enter Try.func15, Try.ntmps15
    go_wp2_with fail
    refine (l4Page_at T p _ (HRD.out.keep HS1.out.bel) B HC.out _ H1.out).mono ?_
    rintro e w1 ⟨rfl, hb⟩
    have C1 := own_box ((HS1.out.below hb).own 1 _ rfl)
    have F1 := own_free ((HS1.out.below hb).own 1 _ rfl)
    have HB := Lib.hid (HS1.out.below hb).bel
    clear hb
    go_wp2
    refine bodyPost_ret (v := .tuple #[.agg #[.slice none 0 0, .slice none 0 0], .bool false]) (by simp [results, Try.results15, go_sem, C1]) rfl ?_
    exact ⟨tab0, rfl, rfl, rfl, things0_below ((HB.out.setCell (by simp) _).setCell (by simp) _)⟩
  · have HG := Lib.hid (pageOk_good h1).1
    have h1g : goodB T.D T.E = true := goodB_true HG.out
    obtain ⟨q, rfl, hq⟩ := (pageOk_good h1).2
    have hqi : inB (q : Int) 0 15 = true := inB_iff.2 (by omega)
    obtain ⟨⟨x, xw⟩, he⟩ : ∃ e0, getE T.D T.E q = e0 := ⟨_, rfl⟩
    have hf : frO T.D T.E q = x := by unfold frO; rw [he]
    have HE0 := Lib.hid he
    have hk := hasOk_eq h1g hqi
    rw [hf] at hk
    have HF := Lib.hid hf
    by_cases hn : x = -1
    · rw [uR_no (by rw [hk, hn]; rfl)]
      subst hn
      have hfd := fieldE (-1) xw
      clear h1 h1g hqi he hf hk
      go_enter Try.func15, Try.ntmps15
      go_wp2_with fail
      refine (l4Page_at T q _ (HRD.out.keep HS1.out.bel) B HC.out _ H1.out).mono ?_
      rintro e w1 ⟨rfl, hb⟩
      have C0 := own_box ((HS1.out.below hb).own 0 _ rfl)
      have HS2 := Lib.hid (HS1.out.below hb)
      clear hb
      go_wp2_with fail
      refine (l4Get_at T q _ xw _ (HRD.out.keep HS2.out.bel) HG.out hq HE0.out).mono ?_
      rintro e w2 ⟨rfl, hb⟩
      have C1 := own_box ((HS2.out.below hb).own 1 _ rfl)
      have F1 := own_free ((HS2.out.below hb).own 1 _ rfl)
      have HB := Lib.hid (HS2.out.below hb).bel
      clear hb C0
      go_wp2
      refine bodyPost_ret (v := .tuple #[.agg #[.slice none 0 0, .slice none 0 0], .bool false]) (by simp [results, Try.results15, go_sem, C1]) rfl ?_
      exact ⟨tab0, rfl, rfl, rfl, things0_below ((HB.out.setCell (by simp) _).setCell (by simp) _)⟩
    · have hne : (x != -1) = true := by simp [hn]
      have hne2 : (x == -1) = false := by simp [hn]
      rw [hne] at hk
      have hdn : dirOf T.D q ≠ -1 := fr_dir (D := T.D) (E := T.E) (q := q) (by rw [HF.out]; exact hn)
      have HDN := Lib.hid hdn
      have huR : uR T.D T.E q = some (unmD T.D T.E q, unmL T.D T.E q) := by rw [uR, if_pos hk, Int.toNat_natCast]
      rw [huR]
      obtain ⟨j, es, e0, hdj, hTj, hlfT, _⟩ := HG.out.leafAt hq hdn
      have hfd := fieldE x xw
      clear hn hne hk huR h1 h1g hqi hf he
      go_enter Try.func15, Try.ntmps15
      go_wp2_with fail
      refine (l4Page_at T q _ (HRD.out.keep HS1.out.bel) B HC.out _ H1.out).mono ?_
      rintro e w1 ⟨rfl, hb⟩
      have C0 := own_box ((HS1.out.below hb).own 0 _ rfl)
      have HS2 := Lib.hid (HS1.out.below hb)
      clear hb
      go_wp2_with fail
      refine (l4Get_at T q _ xw _ (HRD.out.keep HS2.out.bel) HG.out hq HE0.out).mono ?_
      rintro e w2 ⟨rfl, hb⟩
      clear C0
      have C0 := own_box ((HS2.out.below hb).own 0 _ rfl)
      have HS3 := Lib.hid (HS2.out.below hb)
      clear hb
      go_wp2_with fail
      refine (l4Map_any T q (-1) false _ (HRD.out.keep HS3.out.bel) B HG.out hq).mono ?_
      rintro e w3 ⟨T1, rfl, hD1, hE1, R⟩
      have S5 := tv_in ((HS3.out.join R).new (below_alloc _ _) (own_bx _ 27 2 #[.slice T1.Ad T1.D.length T1.cd, .slice T1.Al T1.L.length T1.cl] rfl))
      have hlm : (mapL T.D T.E q ⟨-1, false⟩).length ≤ 4 := by rw [mapL, if_neg hdn, List.length_set]; exact HG.out.len4
      have hDT : T1.D = T.D := by rw [hD1, mapD, if_neg hdn]
      have hML : mapL T.D T.E q ⟨-1, false⟩ = T.E.set j (es.set (q % 4) noE) := by
        rw [mapL, if_neg hdn, hdj, Int.toNat_natCast, hTj]; rfl
      have hTl := (List.getElem?_eq_some_iff.1 hTj).1
      obtain ⟨Ad, cd, D, Al, cl, L⟩ := T1
      rw [← hE1, Tab.E_len] at hlm
      dsimp only at hlm hDT hD1
      have h4 : D.length = 4 := by rw [hDT]; exact HG.out.len
      obtain ⟨b, rfl⟩ := own_some (n := D.length) (xs := D) (R.own 0 _ rfl) (by omega)
      have hEj : (⟨some ⟨b, 0, none⟩, cd, D, Al, cl, L⟩ : Tab).E[j]? = some (es.set (q % 4) noE) := by rw [hE1, hML]; exact List.getElem?_set_self hTl
      obtain ⟨⟨lA, lc, es'⟩, hLj, hes'⟩ : ∃ l, L[j]? = some l ∧ l.es = es.set (q % 4) noE := by
        simp only [Tab.E, List.getElem?_map, Option.map_eq_some_iff] at hEj
        exact hEj
      dsimp only at hes'
      subst hes'
      have hjL := (List.getElem?_eq_some_iff.1 hLj).1
      obtain ⟨g3, hg3, _, _⟩ := own_someS (R.own 1 _ rfl) (by show 0 < L.length; omega)
      dsimp only at hg3
      subst hg3
      have h5l : (es.set (q % 4) noE).length = 4 := by rw [List.length_set]; exact leafB_len hlfT
      have hgt : D[q / 4]? = some (j : Int) := by rw [hDT, HG.out.dir hq, hdj]
      have hes5 : ((mapL T.D T.E q noE)[(dirOf T.D q).toNat]?).getD [] = es.set (q % 4) noE := by
        rw [hdj, Int.toNat_natCast]
        show ((mapL T.D T.E q ⟨-1, false⟩)[j]?).getD [] = _
        rw [hML, List.getElem?_set_self hTl]; rfl
      have hrng : ∀ d ∈ D, -1 ≤ d ∧ d < 4 := fun d hd => by
        obtain ⟨k, hk⟩ := List.getElem?_of_mem hd
        rw [hDT] at hk hd
        have h7 := HG.out.lt d hd
        have h9 := HG.out.len4
        refine ⟨?_, by omega⟩
        by_cases h : d = -1
        · omega
        · have := HG.out.dirs k d (by have h9 := (List.getElem?_eq_some_iff.1 hk).1; have h8 := HG.out.len; omega) hk h
          omega
      obtain ⟨w5, hw5⟩ : ∃ w5, w5 = w3.alloc (.cells #[.slice (some ⟨b, 0, none⟩) D.length cd, .slice (some ⟨g3, 0, none⟩) L.length cl] 27) := ⟨_, rfl⟩
      have HS8 : Hid (Sep w w5 ([bx 27 2 w.heap.size [.slice T.Ad T.D.length T.cd, .slice T.Al T.L.length T.cl], bx 27 2 (w.heap.size + 1) [.slice none 0 0, .slice none 0 0]] ++ tvT w3.heap.size ⟨some ⟨b, 0, none⟩, cd, D, some ⟨g3, 0, none⟩, cl, L⟩)) := by
        rw [hw5]; exact S5
      have HH4 := Lib.hid h4
      have HJ5 := Lib.hid hLj
      have HD5 := Lib.hid hD1
      have HE5 := Lib.hid (show (⟨some ⟨b, 0, none⟩, cd, D, some ⟨g3, 0, none⟩, cl, L⟩ : Tab).E = mapL T.D T.E q noE from hE1)
      have HES5 := Lib.hid hes5
      have HDJ := Lib.hid hdj
      have H5L := Lib.hid h5l
      have HRNG := Lib.hid hrng
      have HGT := Lib.hid hgt
      have hj4 : (j : Int) < 4 := by omega
      have hjl5 : (j : Int) < (L.length : Int) := by omega
      have hal : 0 ≤ (q : Int) / 4 ∧ (q : Int) / 4 < (D.length : Int) := by omega
      clear hgt hrng h5l hdj hes5 hE1 hD1 hLj h4 hML hDT hEj hTj hTl hlfT S5 R hdn C0
      go_upto_region 4 with (fail)
      rw [← hw5]
      have C7 := own_box (tv_box HS8.out)
      have Z7 := own_lt (tv_box HS8.out)
      dsimp only at C7
      obtain ⟨b', o', hbo', hbl', hcd'⟩ := (tv_rd HS8.out).dirs HH4.out
      simp only [Option.some.injEq, Addr.mk.injEq, and_true] at hbo'
      obtain ⟨rfl, rfl⟩ := hbo'
      have hcd := hcd'.out (q / 4) _ HGT.out
      rw [Nat.zero_add] at hcd
      obtain ⟨b3, o3, hb3, hbl3, hc3⟩ := (tv_rd HS8.out).rowAt HJ5.out
      simp only [Option.some.injEq, Addr.mk.injEq, and_true] at hb3
      obtain ⟨rfl, rfl⟩ := hb3
      rw [Nat.zero_add, H5L.out] at hc3
      dsimp only at hc3
      have hrl := (tv_rd HS8.out).l j _ HJ5.out
      dsimp only at hrl
      rw [H5L.out] at hrl
      have HRL := Lib.hid hrl
      clear hrl hw5
      cases hlf : leafB (es.set (q % 4) noE)
      all_goals have HLF := Lib.hid hlf
      all_goals clear hlf
      · go_wp2_with fail
        refine (l4Leaf_eq _ _ _ _ _ HRL.out (by decide) _ HLF.out).mono ?_
        rintro e3 w6 ⟨rfl, rfl⟩
        have hcap5 : L.length ≤ cl ∧ cl ≤ maxLen := own_cap (HS8.out.own 4 _ rfl)
        unfold maxLen at hcap5
        have hjc : (j : Int) ≤ (cl : Int) := by omega
        have hj0 : (0 : Int) ≤ (j : Int) := by omega
        have hj1 : (j : Int) + 1 ≤ (L.length : Int) := by omega
        have hlc : (L.length : Int) ≤ (cl : Int) := by omega
        have hj2 : IntKind.i64.wrap ((j : Int) + 1) = ((j + 1 : Nat) : Int) := by rw [IntWalk.i64_in _ (by omega)]; omega
        have hrd : Rd w5 1 (some ⟨g3, 0, none⟩) L.length (L.map Leaf.cell) := (tv_rd HS8.out).r
        have hrd1 : Rd w5 1 (some ⟨g3, 0, none⟩) j ((L.map Leaf.cell).take j) := by
          refine ⟨by simp; omega, fun h0 => ?_⟩
          obtain ⟨b, o, hA, hb, hc⟩ := hrd.2 (by omega)
          refine ⟨b, o, hA, hb, fun t u hu => hc t u ?_⟩
          rw [List.getElem?_take] at hu
          split at hu
          · exact hu
          · simp at hu
        have HRD1 := Lib.hid hrd1
        have HRD0 := Lib.hid hrd
        have hrd2 : Rd w5 1 (if cl = j + 1 then some ⟨g3, 0, none⟩ else some ⟨g3, j + 1, none⟩) (L.length - (j + 1)) ((L.map Leaf.cell).drop (j + 1)) := by
          refine ⟨by simp, fun h0 => ?_⟩
          obtain ⟨b, o, hA, hb, hc⟩ := hrd.2 (by omega)
          simp only [Option.some.injEq, Addr.mk.injEq, and_true] at hA
          obtain ⟨rfl, rfl⟩ := hA
          refine ⟨_, j + 1, by rw [if_neg (by omega)], hb, fun t u hu => ?_⟩
          rw [List.getElem?_drop] at hu
          have := hc _ u hu
          rwa [Nat.zero_add] at this
        have HRD2 := Lib.hid hrd2
        have hj3 : (0 : Int) ≤ (j : Int) + 1 := by omega
        have hnj : j + (L.length - (j + 1)) = L.length - 1 := by omega
        have HNJ := Lib.hid hnj
        have hel : (L.map Leaf.cell).take j ++ (L.map Leaf.cell).drop (j + 1) = (L.eraseIdx j).map Leaf.cell := by
          rw [List.eraseIdx_eq_take_drop_succ, List.map_append, List.map_take, List.map_drop]
        have HEL := Lib.hid hel
        clear hrd hrd1 hrd2 hnj hel
        go_upto_region 7 with (fail)
        go_cut [] from 38 (fun wx => ∃ A2 c2, Hid (Sep w wx ([bx 27 2 w.heap.size [.slice T.Ad T.D.length T.cd, .slice T.Al T.L.length T.cl], bx 27 2 (w.heap.size + 1) [.slice none 0 0, .slice none 0 0]] ++ tvT w3.heap.size ⟨some ⟨b, 0, none⟩, cd, D, A2, c2, L.eraseIdx j⟩)))
        case first =>
          go_region_law (first
          | ((refine step_app _ (by rfl) _ _ 25 (by rfl) w5.heap.size 71 i1 (.slice none 0 0) 1 24 Try.underlying25 HI1.out HY0.out HY1.out HY2.out rfl (by decide) _ 0 _ [] (by rfl) (World.ownsRow_made _ #[] 0 (Nat.le_refl _) (Nat.zero_le _) rfl) _ j _ ((L.map Leaf.cell).take j) (by rfl) (HRD1.out.keep ((Below.refl _ _).drew.alloc (Nat.le_refl _) _)) (ones_map _ _) (by unfold maxLen; omega) (by omega) (by simp) ?_; intro A1 c1 w6 hown1 hgrow1 hat1; have hb6 : Below w5.heap.size w5 w6 := below_app ((Below.refl _ _).drew.alloc (Nat.le_refl _) _) (by simp) (e := 71) (size := 1) (World.ownsRow_made _ #[] 0 (Nat.le_refl _) (Nat.zero_le _) rfl) hgrow1; have hk6 : w6.cell? ⟨w3.heap.size, 1, none⟩ = some (.slice (some ⟨g3, 0, none⟩) L.length cl) := (hb6.cell (p := ⟨w3.heap.size, 1, none⟩) Z7).trans (C7 1); have z6 : w3.heap.size < w6.heap.size := Nat.lt_of_lt_of_le Z7 hb6.size; have HB6 := Lib.hid hb6; have HOWN1 := Lib.hid hown1; clear hgrow1 hat1 hb6 hown1))
          | ((refine step_app _ (by rfl) _ _ 25 (by rfl) w5.heap.size 71 i1 (.slice none 0 0) 1 24 Try.underlying25 HI1.out HY0.out HY1.out HY2.out rfl (by decide) _ j _ ((L.map Leaf.cell).take j) (by rfl) (own_zero HOWN1.out) _ (L.length - (j + 1)) _ ((L.map Leaf.cell).drop (j + 1)) (by rfl) (HRD2.out.keep HB6.out) (ones_mapD _ _) (by unfold maxLen; omega) (by omega) HB6.out.size ?_; intro A2 c2 w7 hown2 hgrow2 hat2; have hb7 : Below w5.heap.size w5 w7 := below_app HB6.out HB6.out.size (own_zero HOWN1.out) hgrow2; obtain ⟨C9, F9, S9⟩ := tv_cut (P := [_, _]) HS8.out hjL hb7 (own_cut HNJ.out HEL.out hown2); have z7 := (show w3.heap.size < w7.heap.size by have := own_lt (tv_box S9); simpa using this); have HS9 := Lib.hid S9; clear hown2 hgrow2 hat2 hb7 S9)))
          all_goals
            generalize (if cl = j + 1 then (some ⟨g3, 0, none⟩ : Option Addr) else some ⟨g3, j + 1, none⟩) = A9
            go_wp2_with fail
            go_meet
            refine ⟨A2, c2, ?_⟩
            have h := HS9.out
            rw [← HNJ.out] at h
            exact h
        case rest =>
          obtain ⟨A2, c2, HS9⟩ := hcut
          clear HRD0 HRD1 HRD2 HI1 HY0 HY1 HY2 C7 Z7 hcd hc3 HEL HNJ
          go_wp2
          go_loopw [8] (fun i wo => ∃ (k : Nat), k ≤ 4 ∧ i = .int .i64 k ∧ Hid (Sep w wo ([bx 27 2 w.heap.size [.slice T.Ad T.D.length T.cd, .slice T.Al T.L.length T.cl], bx 27 2 (w.heap.size + 1) [.slice none 0 0, .slice none 0 0]] ++ tvT w3.heap.size ⟨some ⟨b, 0, none⟩, cd, cutK D j k, A2, c2, L.eraseIdx j⟩)))
            (fun i _ => 4 - (intOf i).toNat)
          case atStart => exact ⟨0, Nat.zero_le _, rfl, by rw [cutK_zero]; exact HS9⟩
          case round =>
            obtain ⟨k, hk, rfl, HS⟩ := hrel
            by_cases hlt : k < 4
            · have hkD : k < D.length := by have := HH4.out; omega
              obtain ⟨d, hd⟩ : ∃ d, D[k]? = some d := ⟨_, List.getElem?_eq_getElem hkD⟩
              have hdr := HRNG.out d (List.mem_of_getElem? hd)
              have hdi := (HS.out.own 3 _ rfl)
              have hC := own_box (tv_box HS.out)
              have hZ := own_lt (tv_box HS.out)
              dsimp only at hC
              rw [cutK_len] at hC
              have hxd : Hid ((cutK D j k)[k]? = some d) := by show _ = _; rw [cutK_get hkD]; exact hd
              have hSo := fun x => own_store (show Own wr w.heap.size (ti (some ⟨b, 0, none⟩) D.length cd (cutK D j k)) by have h9 := hdi; rw [show (⟨some ⟨b, 0, none⟩, cd, cutK D j k, A2, c2, L.eraseIdx j⟩ : Tab).D.length = D.length from cutK_len _ _ _] at h9; exact h9) hkD x
              have hW : ∀ x wx, wr.grownBy wx (some b) → Own wx w.heap.size (ti (some ⟨b, 0, none⟩) D.length cd ((cutK D j k).set k x)) → x = cut1 j d → Hid (Sep w wx ([bx 27 2 w.heap.size [.slice T.Ad T.D.length T.cd, .slice T.Al T.L.length T.cl], bx 27 2 (w.heap.size + 1) [.slice none 0 0, .slice none 0 0]] ++ tvT w3.heap.size ⟨some ⟨b, 0, none⟩, cd, cutK D j (k + 1), A2, c2, L.eraseIdx j⟩)) := by
                intro x wx hgx hox hx
                have h9 := tv_dir HS.out (cutK D j (k + 1)) (by show _ = (cutK _ _ _).length; rw [cutK_len, cutK_len]) hgx (by
                  rw [← cutK_set hd, ← hx]
                  show Own wx _ (ti (some ⟨b, 0, none⟩) (cutK D j k).length cd _)
                  rw [cutK_len]; exact hox)
                exact h9
              obtain ⟨b', o', hb', _, hcd⟩ := (tv_rd HS.out).dirAt hxd.out
              simp only [Option.some.injEq, Addr.mk.injEq, and_true] at hb'
              obtain ⟨rfl, rfl⟩ := hb'
              rw [Nat.zero_add] at hcd
              have HW := Lib.hid hW
              have HDD := Lib.hid hd
              have hk0 : (0 : Int) ≤ (k : Int) := by omega
              have hkl : (k : Int) < (D.length : Int) := by omega
              have hk4 : (k : Int) < 4 := by omega
              have hdd : d < 4 := by omega
              clear hW hd hdi
              by_cases h1 : d = (j : Int)
              · subst h1
                obtain ⟨_, hfz, hown, hgr⟩ := hSo (-1)
                have HX := HW.out _ _ hgr hown (by simp [cut1])
                clear hown hgr hSo
                go_wp2
                go_roundw
                case rel => exact ⟨k + 1, by omega, by go_num, HX⟩
                case measure => simp [intOf]; omega
              · have hb1 : (d == (j : Int)) = false := by simpa using h1
                by_cases h2 : (j : Int) < d
                · obtain ⟨_, hfz, hown, hgr⟩ := hSo (d - 1)
                  have HX := HW.out _ _ hgr hown (by simp [cut1, h1, h2])
                  have hd1 : -9223372036854775808 ≤ d - 1 := by omega
                  have hd2 : d - 1 ≤ 9223372036854775807 := by omega
                  have hwd : IntKind.i64.wrap (d - 1) = d - 1 := IntWalk.i64_in _ (by omega)
                  clear hown hgr hSo
                  go_wp2_with fail
                  go_region_law (fail)
                  all_goals
                    have HX2 := Lib.hid (HX.out.below (Below.drew (Below.refl _ _)))
                    go_wp2
                    go_roundw
                    case rel => exact ⟨k + 1, by omega, by go_num, HX2⟩
                    case measure => simp [intOf]; omega
                · have HX : Hid (Sep w wr ([bx 27 2 w.heap.size [.slice T.Ad T.D.length T.cd, .slice T.Al T.L.length T.cl], bx 27 2 (w.heap.size + 1) [.slice none 0 0, .slice none 0 0]] ++ tvT w3.heap.size ⟨some ⟨b, 0, none⟩, cd, cutK D j (k + 1), A2, c2, L.eraseIdx j⟩)) := by
                    rw [← cutK_same HDD.out (by simp [cut1, h1, h2])]; exact HS
                  clear hSo
                  go_wp2
                  go_roundw
                  case rel => exact ⟨k + 1, by omega, by go_num, HX⟩
                  case measure => simp [intOf]; omega
            · have HKN : Hid (k = 4) := by show k = 4; omega
              have hC := own_box (tv_box HS.out)
              have hZ := own_lt (tv_box HS.out)
              dsimp only at hC
              rw [cutK_len] at hC
              have C8 := own_box (HS.out.own 1 _ rfl)
              have F8 := own_free (HS.out.own 1 _ rfl)
              go_wp2
              refine bodyPost_ret (v := .tuple #[.agg #[.slice (some ⟨b, 0, none⟩) D.length cd, .slice A2 (L.eraseIdx j).length c2], .bool true]) (by simp [results, Try.results15, go_sem, C8]) rfl ?_
              have P3 := own_putAll [.slice (some ⟨b, 0, none⟩) D.length cd, .slice A2 (L.eraseIdx j).length c2] _ _ 0 (HS.out.own 1 _ rfl)
              have S8 := HS.out.write 1 rfl P3.2 _ P3.1
              refine ⟨⟨some ⟨b, 0, none⟩, cd, cutK D j k, A2, c2, L.eraseIdx j⟩, ?_, ?_, ?_, tv_things (P := [_, _]) S8⟩
              · show _ = Ending.returned (.tuple #[.agg #[.slice _ (cutK D j k).length _, _], _])
                rw [cutK_len]; rfl
              · show cutK D j k = unmD T.D T.E q
                rw [unmD, HES5.out, if_neg (by rw [HLF.out]; decide), cutK_all _ _ _ (by rw [HKN.out, HH4.out]; exact Nat.le_refl _), HDJ.out, ← HD5.out]
              · show (⟨some ⟨b, 0, none⟩, cd, _, A2, c2, L.eraseIdx j⟩ : Tab).E = unmL T.D T.E q
                rw [unmL, HES5.out, if_neg (by rw [HLF.out]; decide), tv_delE, HDJ.out, Int.toNat_natCast, ← HE5.out]
                rfl
      · go_wp2_with fail
        refine (l4Leaf_eq _ _ _ _ _ HRL.out (by decide) _ HLF.out).mono ?_
        rintro e3 w6 ⟨rfl, rfl⟩
        have C8 := own_box (HS8.out.own 1 _ rfl)
        have F8 := own_free (HS8.out.own 1 _ rfl)
        go_wp2
        refine bodyPost_ret (v := .tuple #[.agg #[.slice (some ⟨b, 0, none⟩) D.length cd, .slice (some ⟨g3, 0, none⟩) L.length cl], .bool true]) (by simp [results, Try.results15, go_sem, C8]) rfl ?_
        have P3 := own_putAll [.slice (some ⟨b, 0, none⟩) D.length cd, .slice (some ⟨g3, 0, none⟩) L.length cl] _ _ 0 (HS8.out.own 1 _ rfl)
        have S8 := HS8.out.write 1 rfl P3.2 _ P3.1
        refine ⟨⟨some ⟨b, 0, none⟩, cd, D, some ⟨g3, 0, none⟩, cl, L⟩, rfl, ?_, ?_, tv_things (P := [_, _]) S8⟩
        · show D = unmD T.D T.E q
          rw [unmD, HES5.out, if_pos HLF.out]; exact HD5.out
        · show _ = unmL T.D T.E q
          rw [unmL, HES5.out, if_pos HLF.out]; exact HE5.out
end Go.Proofs.Ytaaocnfbbajphaa
