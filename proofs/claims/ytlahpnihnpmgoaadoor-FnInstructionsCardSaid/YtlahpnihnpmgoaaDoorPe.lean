/- Contract of the program's ParseAssembly: the one instruction that has this text, if there is one. Lengths at most 2^20. -/
import Derived.Test.YtlahpnihnpmgoaaDoorPd
import Derived.Deep.RegionHeld3
import Derived.Deep.RegionLaw
import Derived.Deep.CutRange
import Derived.Deep.CutBlock
namespace Go.Proofs.YtlahpnihnpmgoaaDoor
open Go.RowKit
set_option linter.unusedVariables false
set_option linter.unusedSimpArgs false

theorem kcellP {w w' : World} {b o : Nat} {v : Value} (h : Below w.heap.size w w') (hb : b < w.heap.size) (hc : w.cell? ⟨b, o, none⟩ = some v) : w'.cell? ⟨b, o, none⟩ = some v := (h.cell (p := ⟨b, o, none⟩) hb).trans hc
theorem kallocP {w : World} {b o : Nat} {v : Value} {ob : Obj} (hc : w.cell? ⟨b, o, none⟩ = some v) : (w.alloc ob).cell? ⟨b, o, none⟩ = some v :=
  kcellP (below_alloc w ob) (by have := World.block_lt_of_cell? _ _ hc; exact this) hc
theorem kdrewP {w : World} {b o : Nat} {v : Value} (hc : w.cell? ⟨b, o, none⟩ = some v) : w.drew.cell? ⟨b, o, none⟩ = some v := hc
theorem ksetP {w : World} {b o g p : Nat} {v u : Value} (h : b ≠ g) (hc : w.cell? ⟨b, o, none⟩ = some v) : (w.setCell ⟨g, p, none⟩ u).cell? ⟨b, o, none⟩ = some v := by
  rw [← hc]; exact World.cell?_of_block (w := w) (heap_setCell_other w ⟨g, p, none⟩ b u h)
/-- what the packages keep -/
structure Ev (w : World) : Prop where
  tab : Tab w
  nms : Nms w
  err : Err w
theorem Ev.keep {w w' : World} (E : Ev w) (hb : Below w.heap.size w w') : Ev w' := ⟨E.tab.keep hb, E.nms.keep hb, E.err.keep hb⟩
/-- what stays: the words, the variable of the result -/
structure Pz (w wx : World) (bW nw : Nat) (ws : List (List UInt8)) : Prop where
  bel : Below w.heap.size w wx
  ev : Ev wx
  res : Box wx w.heap.size 26 #[.int .i64 0, .int .i64 0, .int .i64 0, .int .i64 0]
  rd : Rd wx 1 (some ⟨bW, 0, none⟩) nw (T ws)
theorem Pz.keep {w wx wy : World} {bW nw : Nat} {ws : List (List UInt8)} (S : Pz w wx bW nw ws) (hb : Below wx.heap.size wx wy) : Pz w wy bW nw ws := ⟨below_next S.bel hb, S.ev.keep hb, S.res.keep hb, S.rd.keep hb⟩
theorem ParS.s0 {o a b n x : Int} {nums r r' : List Int} (h : ParS o nums 0 a b n r) (hf : fld (uA o) r = some (x, r')) : ParS o nums 1 x b n r' := by
  obtain ⟨rfl, rfl, rfl, rfl⟩ := h; exact ⟨hf, rfl, rfl⟩
theorem ParS.s1 {o a b n x : Int} {nums r r' : List Int} (h : ParS o nums 1 a b n r) (hf : fld (uB o) r = some (x, r')) : ParS o nums 2 a x n r' := by
  obtain ⟨h1, rfl, rfl⟩ := h; exact ⟨_, h1, hf, rfl⟩
theorem ParS.s2 {o a b n x : Int} {nums r r' : List Int} (h : ParS o nums 2 a b n r) (hf : fld (uZ o) r = some (x, r')) : ParS o nums 3 a b x r' := by
  obtain ⟨r1, h1, h2, rfl⟩ := h; exact ⟨_, _, h1, h2, hf⟩
theorem ParS.z0 {o a b n : Int} {nums r : List Int} (h : ParS o nums 0 a b n r) (hu : uA o = false) : ParS o nums 1 a b n r := by
  have := h.1; subst this; exact h.s0 (by rw [hu]; rfl)
theorem ParS.z1 {o a b n : Int} {nums r : List Int} (h : ParS o nums 1 a b n r) (hu : uB o = false) : ParS o nums 2 a b n r := by
  have := h.2.1; subst this; exact h.s1 (by rw [hu]; rfl)
theorem ParS.z2 {o a b n : Int} {nums r : List Int} (h : ParS o nums 2 a b n r) (hu : uZ o = false) : ParS o nums 3 a b n r := by
  have h2 := h
  obtain ⟨r1, _, _, rfl⟩ := h2; exact h.s2 (by rw [hu]; rfl)
/-- the run of the fields -/
def Runs (o : Int) (nums : List Int) (a b n : Int) : Prop := ∃ r1 r2, fld (uA o) nums = some (a, r1) ∧ fld (uB o) r1 = some (b, r2) ∧ fld (uZ o) r2 = some (n, [])
theorem ParS.no0 {o a b n a' b' n' : Int} {nums : List Int} (h : ParS o nums 0 a b n []) (hu : uA o = true) : ¬ Runs o nums a' b' n' := by
  obtain ⟨_, _, _, rfl⟩ := h
  rintro ⟨r1, r2, h1, _⟩
  simp [fld, hu] at h1
theorem ParS.no1 {o a b n a' b' n' : Int} {nums : List Int} (h : ParS o nums 1 a b n []) (hu : uB o = true) : ¬ Runs o nums a' b' n' := by
  obtain ⟨e, _, _⟩ := h
  rintro ⟨r1, r2, h1, h2, _⟩
  rw [e] at h1
  obtain ⟨rfl, rfl⟩ := Prod.mk.inj (Option.some.inj h1)
  simp [fld, hu] at h2
theorem ParS.no2 {o a b n a' b' n' : Int} {nums : List Int} (h : ParS o nums 2 a b n []) (hu : uZ o = true) : ¬ Runs o nums a' b' n' := by
  obtain ⟨q, e, e2, _⟩ := h
  rintro ⟨r1, r2, h1, h2, h3⟩
  rw [e] at h1
  obtain ⟨rfl, rfl⟩ := Prod.mk.inj (Option.some.inj h1)
  rw [e2] at h2
  obtain ⟨rfl, rfl⟩ := Prod.mk.inj (Option.some.inj h2)
  simp [fld, hu] at h3
theorem ParS.all {o a b n a' b' n' : Int} {nums r : List Int} (h : ParS o nums 3 a b n r) (hr : Runs o nums a' b' n') : a' = a ∧ b' = b ∧ n' = n := by
  obtain ⟨q1, q2, e1, e2, e3⟩ := h
  obtain ⟨r1, r2, h1, h2, h3⟩ := hr
  rw [e1] at h1
  obtain ⟨rfl, rfl⟩ := Prod.mk.inj (Option.some.inj h1)
  rw [e2] at h2
  obtain ⟨rfl, rfl⟩ := Prod.mk.inj (Option.some.inj h2)
  rw [e3] at h3
  obtain ⟨rfl, _⟩ := Prod.mk.inj (Option.some.inj h3)
  exact ⟨rfl, rfl, rfl⟩
theorem runs_of {l w0 : List UInt8} {ws wt : List (List UInt8)} {o : Int} (hws : ws = splitR 32 l) (hwt : ws = w0 :: wt) (ho : o = Lib.idxOfS (opN.map fun z => (⟨z.toArray⟩ : ByteArray)) ⟨w0.toArray⟩)
    {o' a' b' n' : Int} (hy : insB o' a' b' n' = true) (he : asmL o' a' b' n' = l) : o' = o ∧ Runs o (wt.map fun u => parN (tkR u)) a' b' n' := by
  have hp := asm_parses hy
  rw [he, ← hws, hwt] at hp
  have h1 : o' = o := hp.name.symm.trans ho.symm
  subst h1
  exact ⟨rfl, hp.run⟩
/-- inside the second loop -/
structure Lp (w wx : World) (g5 gP : Nat) (o a b n : Int) (A : Option Addr) (m : Nat) (r : List Int) : Prop where
  bel : Below w.heap.size w wx
  res : Box wx w.heap.size 26 #[.int .i64 0, .int .i64 0, .int .i64 0, .int .i64 0]
  bx : Box wx g5 26 #[.int .i64 o, .int .i64 a, .int .i64 b, .int .i64 n]
  pp : Box wx gP 57 #[.pointer (some ⟨g5, 1, none⟩), .pointer (some ⟨g5, 2, none⟩), .pointer (some ⟨g5, 3, none⟩)]
  rd : Rd wx 1 A m (I r)
  ne : blk A ≠ some g5
  gr : w.heap.size < g5
  gp : g5 < gP
theorem Lp.keep {w wx wy : World} {g5 gP m : Nat} {o a b n : Int} {A : Option Addr} {r : List Int} (S : Lp w wx g5 gP o a b n A m r) (hb : Below wx.heap.size wx wy) : Lp w wy g5 gP o a b n A m r := ⟨below_next S.bel hb, S.res.keep hb, S.bx.keep hb, S.pp.keep hb, S.rd.keep hb, S.ne, S.gr, S.gp⟩
theorem Lp.drew {w wx : World} {g5 gP m : Nat} {o a b n : Int} {A : Option Addr} {r : List Int} (S : Lp w wx g5 gP o a b n A m r) : Lp w wx.drew g5 gP o a b n A m r := ⟨S.bel.drew, S.res.drew, S.bx.drew, S.pp.drew, S.rd, S.ne, S.gr, S.gp⟩
theorem Lp.put1 {w wx : World} {g5 gP bN oN m c : Nat} {o a b n u : Int} {r : List Int} (S : Lp w wx g5 gP o a b n (some ⟨bN, oN, none⟩) m (u :: r)) (hc : m ≤ c) : Lp w (wx.setCell ⟨g5, 1, none⟩ (.int .i64 u)) g5 gP o u b n (if c = 1 then some ⟨bN, oN, none⟩ else some ⟨bN, oN + 1, none⟩) (m - 1) r :=
  ⟨S.bel.setCell (Nat.le_of_lt S.gr) _, S.res.far (a := ⟨g5, 1, none⟩) (Nat.ne_of_lt S.gr) _, S.bx.put 1 _, S.pp.far (a := ⟨g5, 1, none⟩) (Nat.ne_of_gt S.gp) _, (S.rd.tailV hc).putX (by split <;> exact S.ne) _, by split <;> exact S.ne, S.gr, S.gp⟩
theorem Lp.put2 {w wx : World} {g5 gP bN oN m c : Nat} {o a b n u : Int} {r : List Int} (S : Lp w wx g5 gP o a b n (some ⟨bN, oN, none⟩) m (u :: r)) (hc : m ≤ c) : Lp w (wx.setCell ⟨g5, 2, none⟩ (.int .i64 u)) g5 gP o a u n (if c = 1 then some ⟨bN, oN, none⟩ else some ⟨bN, oN + 1, none⟩) (m - 1) r :=
  ⟨S.bel.setCell (Nat.le_of_lt S.gr) _, S.res.far (a := ⟨g5, 2, none⟩) (Nat.ne_of_lt S.gr) _, S.bx.put 2 _, S.pp.far (a := ⟨g5, 2, none⟩) (Nat.ne_of_gt S.gp) _, (S.rd.tailV hc).putX (by split <;> exact S.ne) _, by split <;> exact S.ne, S.gr, S.gp⟩
theorem Lp.put3 {w wx : World} {g5 gP bN oN m c : Nat} {o a b n u : Int} {r : List Int} (S : Lp w wx g5 gP o a b n (some ⟨bN, oN, none⟩) m (u :: r)) (hc : m ≤ c) : Lp w (wx.setCell ⟨g5, 3, none⟩ (.int .i64 u)) g5 gP o a b u (if c = 1 then some ⟨bN, oN, none⟩ else some ⟨bN, oN + 1, none⟩) (m - 1) r :=
  ⟨S.bel.setCell (Nat.le_of_lt S.gr) _, S.res.far (a := ⟨g5, 3, none⟩) (Nat.ne_of_lt S.gr) _, S.bx.put 3 _, S.pp.far (a := ⟨g5, 3, none⟩) (Nat.ne_of_gt S.gp) _, (S.rd.tailV hc).putX (by split <;> exact S.ne) _, by split <;> exact S.ne, S.gr, S.gp⟩
theorem arr_at0 (a b c : Int) (w : World) : (Instr.index 59 (.agg #[.int .i64 a, .int .i64 b, .int .i64 c]) (.int .i64 0)).run Tryd.prog w = .ok (.int .i64 a) w := by kernel_rfl
theorem arr_at1 (a b c : Int) (w : World) : (Instr.index 59 (.agg #[.int .i64 a, .int .i64 b, .int .i64 c]) (.int .i64 1)).run Tryd.prog w = .ok (.int .i64 b) w := by kernel_rfl
theorem arr_at2 (a b c : Int) (w : World) : (Instr.index 59 (.agg #[.int .i64 a, .int .i64 b, .int .i64 c]) (.int .i64 2)).run Tryd.prog w = .ok (.int .i64 c) w := by kernel_rfl
def PaP (l : List UInt8) (w : World) (e : Ending) (w' : World) : Prop := ∃ (o a b n : Int) (ok : Bool), e = .returned (.tuple #[insV o a b n, .bool ok]) ∧ PA l o a b n ok ∧ Below w.heap.size w w'

set_option maxRecDepth 100000 in
set_option maxHeartbeats 8000000 in
theorem i_ParseAssembly_any (l : List UInt8) (w : World) (hn : l.length ≤ 1048576) (hE : Ev w) (hM : Mx w) :
    Calls Tryd.prog 10 #[.string ⟨l.toArray⟩] w fun e w' => PaP l w e w' := by
  obtain ⟨i0, hi, hz0, hz1, hz2⟩ := info_parts Tryd.info3
  have HM := Lib.hid (hM.keep (below_alloc w (.cells #[.int .i64 0, .int .i64 0, .int .i64 0, .int .i64 0] 26)))
  have HE := Lib.hid (hE.keep (below_alloc w (.cells #[.int .i64 0, .int .i64 0, .int .i64 0, .int .i64 0] 26)))
  have HX := Lib.hid (Box.new w 26 #[.int .i64 0, .int .i64 0, .int .i64 0, .int .i64 0])
  have HE0 := Lib.hid hE
  clear hM hE
  go_enter Tryd.func10, Tryd.ntmps10
  go_wp2_with fail
  refine (split_any l _ hn HM.out).mono ?_
  rintro e w1 ⟨rfl, hr, hb⟩
  simp only [size_alloc] at hr
  have hlw : ∀ u ∈ splitR 32 l, u.length ≤ 1048576 := fun u hu => Nat.le_trans (splitR_len hu) hn
  have hln : (splitR 32 l).length ≤ l.length + 1 := by rw [← splitL_R]; exact splitL_len 32 l
  obtain ⟨ws, hws⟩ : ∃ ws, ws = splitR 32 l := ⟨_, rfl⟩
  have HWS := Lib.hid hws
  rw [← hws] at hr hlw hln
  rw [← hws]
  clear hws
  obtain ⟨bW, hbW⟩ : ∃ b, b = w.heap.size + 1 := ⟨_, rfl⟩
  obtain ⟨nw, hnw⟩ : ∃ k, k = ws.length := ⟨_, rfl⟩
  rw [← hbW, ← hnw] at hr
  have HP := Lib.hid (⟨below_next (below_alloc w _) hb, HE.out.keep hb, HX.out.keep hb, hr⟩ : Pz w w1 bW nw ws)
  have HLW := Lib.hid hlw
  have HNW := Lib.hid hnw
  rw [← hnw] at hln
  clear hr hlw hb HE HX HM
  have hws1 : ∃ w0 wt, ws = w0 :: wt := by rw [HWS.out]; exact splitR_ne 32 l
  obtain ⟨w0, wt, hwt⟩ := hws1
  have hnw1 : nw = wt.length + 1 := by rw [hnw, hwt]; rfl
  obtain ⟨o, ho⟩ : ∃ o, o = Lib.idxOfS (opN.map fun z => (⟨z.toArray⟩ : ByteArray)) ⟨w0.toArray⟩ := ⟨_, rfl⟩
  have dc0 : w1.cell? ⟨bW, 0, none⟩ = some (.string ⟨w0.toArray⟩) := by
    obtain ⟨b, q, e, _, hc⟩ := HP.out.rd.2 (by omega)
    cases e
    exact hc 0 _ (by rw [hwt]; rfl)
  have cc0 : w1.drew.cell? ⟨bW, 0, none⟩ = some (.string ⟨w0.toArray⟩) := dc0
  have HND := Lib.hid (show Nms w1.drew from HP.out.ev.nms.keep (Below.drew (Below.refl _ _)))
  have HNA := Lib.hid (show Nms (w1.alloc (.cells #[.int .i64 0, .int .i64 0, .int .i64 0, .int .i64 0] 26)).drew from (HP.out.ev.nms.keep (below_alloc _ _)).keep (Below.drew (Below.refl _ _)))
  have HWT := Lib.hid hwt
  have HO := Lib.hid ho
  have hnw0 : (0 : Int) < (nw : Int) := by omega
  have hnw2 : (1 : Int) ≤ (nw : Int) := by omega
  have hnw3 : 0 < nw := by omega
  have HNW1 := Lib.hid hnw1
  clear hwt hnw ho hnw1
  go_upto_region 2 with (fail)
  rw [← hbW]
  have HBW := Lib.hid hbW
  clear hbW
  rw [← HNW.out]
  go_cut [5] from 18 to 23 (fun p wx => ∃ g5 : Nat, p = .pointer (some ⟨g5, 0, none⟩) ∧ Hid (Pz w wx bW nw ws) ∧ Hid (Box wx g5 26 #[.int .i64 o, .int .i64 0, .int .i64 0, .int .i64 0]) ∧ Hid (w.heap.size < g5))
  case first =>
    go_region_held3 (fun w' => w'.cell? ⟨bW, 0, none⟩ = some (.string ⟨w0.toArray⟩))
      (first | (with_reducible exact q0) | (with_reducible exact cc0) | (with_reducible exact dc0) | (repeat (first | (with_reducible exact q0) | (with_reducible exact cc0) | (with_reducible exact dc0) | (with_reducible refine ksetP (by omega) ?_) | (with_reducible refine kallocP ?_) | (with_reducible refine kdrewP ?_)))) (first
      | (go_at_call 30; (first | (refine (index_any _ w0 _ HND.out).mono ?_) | (refine (index_any _ w0 _ HNA.out).mono ?_)); rintro e w5 ⟨rfl, rfl⟩; rw [← HO.out]))
    all_goals
      have hlt := HP.out.res.lt
      have HPA := Lib.hid ((HP.out.keep (below_alloc _ (.cells #[.int .i64 o, .int .i64 0, .int .i64 0, .int .i64 0] 26))).keep (Below.drew (Below.refl _ _)))
      have HXA := Lib.hid (Box.new w1 26 #[.int .i64 o, .int .i64 0, .int .i64 0, .int .i64 0]).drew
      have HLT := Lib.hid hlt
      go_wp2_with fail
      go_meet
      exact ⟨_, rfl, HPA, Lib.hid HXA, HLT⟩
  case rest =>
    obtain ⟨g5, rfl, HP2, HX2, HG5⟩ := hcut
    clear HP HND HNA dc0 cc0
    have C5 := HX2.out.cell
    obtain ⟨la, hla⟩ : ∃ x, x = lim (uA o) 3 := ⟨_, rfl⟩
    obtain ⟨lb, hlb⟩ : ∃ x, x = lim (uB o) 3 := ⟨_, rfl⟩
    obtain ⟨lz, hlz⟩ : ∃ x, x = lim (uZ o) (uN o) := ⟨_, rfl⟩
    go_wp2_with fail
    refine (uses_any o _).mono ?_
    rintro e w3 ⟨rfl, rfl⟩
    rw [← hla, ← hlb, ← hlz]
    have HLA := Lib.hid hla
    have HLB := Lib.hid hlb
    have HLZ := Lib.hid hlz
    clear hla hlb hlz C5
    go_upto_region 5 with (fail)
    obtain ⟨w3, hw3⟩ : ∃ w3, w3 = wc.alloc (.cells #[] 3) := ⟨_, rfl⟩
    have HS0 := Lib.hid (show Sep wc w3 [ti (some ⟨wc.heap.size, 0, none⟩) 0 0 []] by rw [hw3]; exact (Sep.start wc).new (below_alloc _ _) (own_empty 1 (Box.new wc _ _) (Nat.le_refl _)))
    rw [← hw3]
    clear hw3
    obtain ⟨q, hq⟩ : ∃ q, q = nw - 1 := ⟨_, rfl⟩
    have HQN := Lib.hid hq
    clear hq
    go_cut [33, 34, 35] from 32 to 32 (fun s ln i wx => (∃ (P : Option Addr) (cw : Nat), s = .slice P q cw ∧ Hid (0 < q → P = some ⟨bW, 1, none⟩)) ∧ ln = .int .i64 (q : Int) ∧ i = .int .i64 0 ∧ w3 = wx)
    case first =>
      by_cases hn1 : nw = 1
      · subst hn1
        have hq0 : q = 0 := HQN.out
        have HQ0 := Lib.hid hq0
        clear hq0
        go_wp2
        go_meet
        exact ⟨⟨some ⟨bW, 0, none⟩, 0, by rw [HQ0.out], Lib.hid fun h => by have := HQ0.out; omega⟩, by rw [HQ0.out]; rfl, rfl, rfl⟩
      · go_wp2
        go_meet
        exact ⟨⟨some ⟨bW, 1, none⟩, nw - 1, by rw [HQN.out], Lib.hid fun h => rfl⟩, by rw [HQN.out], rfl, rfl⟩
    case rest =>
    obtain ⟨⟨Pw, cw, rfl, HPW⟩, rfl, rfl, rfl⟩ := hcut
    have hq := HQN.out
    have hwq : wt.length = q := by rw [hq, HNW1.out]; omega
    have hqn : nw = q + 1 := by omega
    have HQ := Lib.hid hwq
    have HRT := Lib.hid (show 0 < q → ∀ (j : Nat) (u : List UInt8), wt[j]? = some u → bW < wc.heap.size ∧ wc.cell? ⟨bW, 1 + j, none⟩ = some (.string ⟨u.toArray⟩) from fun hp j u hu => by
      obtain ⟨b, q', e, hb, hc⟩ := HP2.out.rd.2 (by omega)
      cases e
      refine ⟨hb, ?_⟩
      have := hc (j + 1) (.string ⟨u.toArray⟩) (by rw [HWT.out]; simp [T, hu])
      rwa [show 0 + (j + 1) = 1 + j by omega] at this)
    have hq20 : q ≤ 1048577 := by omega
    clear hq hwq hqn
    go_wp2
    go_loopw [35, 9, 11, 12, 13] (fun i s _ _ _ wr => ∃ (k c' : Nat) (A' : Option Addr), k ≤ q ∧ i = .int .i64 k ∧ s = .slice A' k c' ∧ Hid (Sep wc wr [ti A' k c' ((wt.take k).map fun u => parN (tkR u))]) ∧ Hid (∀ u ∈ wt.take k, parB (tkR u) = true)) (fun i _ _ _ _ _ => q - (intOf i).toNat)
    case atStart => exact ⟨0, 0, _, Nat.zero_le _, rfl, rfl, HS0, Lib.hid fun u hu => by simp at hu⟩
    case round =>
      obtain ⟨k, c9, A9, hk, rfl, rfl, HS, HF⟩ := hrel
      clear HS0
      by_cases hlt : k < q
      · have h0 : (0 : Int) ≤ (k : Int) := by omega
        have h1 : (k : Int) < (q : Int) := by omega
        obtain ⟨u, hu⟩ : ∃ u, wt[k]? = some u := ⟨wt[k]'(by rw [HQ.out]; exact hlt), List.getElem?_eq_getElem _⟩
        obtain ⟨hbl, hc⟩ := HRT.out (by omega) k u hu
        obtain rfl := HPW.out (by omega)
        have hcr : wr.cell? ⟨bW, 1 + k, none⟩ = some (.string ⟨u.toArray⟩) := kcellP HS.out.bel hbl hc
        have HU := Lib.hid hu
        clear hu hc
        go_wp2_with fail
        refine (trim_any u _).mono ?_
        rintro e w4 ⟨rfl, rfl⟩
        have HPr := Lib.hid (HP2.out.keep HS.out.bel)
        have hul : (tkR u).length ≤ 4611686018427387904 := by
          have h3 := HLW.out u (by rw [HWT.out]; exact List.mem_cons_of_mem _ (List.mem_of_getElem? HU.out))
          have h4 := tkR_len u
          omega
        go_wp2_with fail
        refine (i_ParseInt_any (tkR u) _ hul HPr.out.ev.tab HPr.out.ev.err).mono ?_
        rintro e w5 ⟨rfl, hb5⟩
        have HS5 := Lib.hid (HS.out.below hb5)
        have HP5 := Lib.hid (HPr.out.keep hb5)
        have HX5 := Lib.hid (HX2.out.keep HS5.out.bel)
        obtain ⟨x, hx⟩ : ∃ x, x = parN (tkR u) := ⟨_, rfl⟩
        obtain ⟨p, hp⟩ : ∃ p, p = parB (tkR u) := ⟨_, rfl⟩
        rw [← hx, ← hp]
        have HXX := Lib.hid hx
        have HPP := Lib.hid hp
        clear hx hp hb5 HPr hcr hul
        cases p
        · have R5 := HP5.out.res.cell
          have F5 := HP5.out.res.free
          have HNO := Lib.hid (show NoA l from fun o a b n hy he => by
            have hp := asm_parses hy
            rw [he, ← HWS.out, HWT.out] at hp
            have := hp.ok u (List.mem_of_getElem? HU.out)
            rw [← HPP.out] at this
            cases this)
          have HB5 := Lib.hid HP5.out.bel
          clear HS5
          go_wp2
          refine bodyPost_ret (v := .tuple #[insV 0 0 0 0, .bool false]) (by simp [results, Tryd.results10, go_sem, R5]) rfl ?_
          exact ⟨0, 0, 0, 0, false, rfl, ⟨⟨rfl, rfl, rfl, rfl⟩, HNO.out⟩, (((HB5.out.setCell (Nat.le_refl _) _).setCell (Nat.le_refl _) _).setCell (Nat.le_refl _) _).setCell (Nat.le_refl _) _⟩
        · have hk9 := (own_cap (HS5.out.own 0 _ rfl)).1
          have hc9 := (own_cap (HS5.out.own 0 _ rfl)).2
          have hsz := HS5.out.bel.size
          go_wp2_with (at_builtin; refine wpList_app _ rfl _ _ 55 rfl wc.heap.size 3 i0 (.int .i64 0) 1 8 Tryd.underlying55 hi hz0 hz1 hz2 rfl (by decide) _ _ _ _ rfl (World.ownsRow.alloc (HS5.out.own 0 _ rfl) _) _ _ _ _ rfl (Rd.one _ _ _) (by simp [Value.oneCell']) (by unfold maxLen; omega) (by omega) (by simp; omega) ?_; intro A' c' w9 hown hgrow hat)
          have HS9 := Lib.hid ((HS5.out.below (below_alloc w5 (.cells #[.int .i64 x] 3))).app 0 rfl hgrow hat (own_I hown))
          clear hown hgrow hat hsz
          go_wp2
          go_roundw
          case rel =>
            refine ⟨k + 1, c', A', by omega, by go_num, rfl, ?_, ?_⟩
            · rw [take_snocA HU.out, List.map_append, List.map_singleton, ← HXX.out]
              exact HS9
            · refine Lib.hid fun v hv => ?_
              rw [take_snocA HU.out, List.mem_append, List.mem_singleton] at hv
              rcases hv with hv | rfl
              · exact HF.out v hv
              · exact HPP.out.symm
          case measure => simp [intOf]; omega
      · have hkq : k = q := by omega
        subst hkq
        have hnum : wt.take k = wt := List.take_of_length_le (by rw [HQ.out]; exact Nat.le_refl _)
        rw [hnum] at HS
        have hk9 := (own_cap (HS.out.own 0 _ rfl)).1
        have hgl := HX2.out.lt
        have HL0 := Lib.hid (show Lp w (wr.alloc (.cells #[.pointer (some ⟨g5, 1, none⟩), .pointer (some ⟨g5, 2, none⟩), .pointer (some ⟨g5, 3, none⟩)] 57)) g5 wr.heap.size o 0 0 0 A9 k (wt.map fun u => parN (tkR u)) by
          have hb := HS.out.bel
          have hb2 := below_alloc wr (.cells #[.pointer (some ⟨g5, 1, none⟩), .pointer (some ⟨g5, 2, none⟩), .pointer (some ⟨g5, 3, none⟩)] 57)
          refine ⟨below_next (below_next HP2.out.bel hb) hb2, (HP2.out.res.keep hb).keep hb2, (HX2.out.keep hb).keep hb2, Box.new _ _ _, (HS.out.rd 0 rfl).keep hb2, fun e => ?_, HG5.out, Nat.lt_of_lt_of_le hgl hb.size⟩
          have := (World.ownsRow.lt (HS.out.own 0 _ rfl) g5 (by rw [ownBlock_slice]; exact e)).1
          omega)
        clear HF HRT hnum
        go_upto_region 14 with (fail)
        obtain ⟨w4, hw4⟩ : ∃ w4, w4 = wr.alloc (.cells #[.pointer (some ⟨g5, 1, none⟩), .pointer (some ⟨g5, 2, none⟩), .pointer (some ⟨g5, 3, none⟩)] 57) := ⟨_, rfl⟩
        obtain ⟨gP, hgP⟩ : ∃ g, g = wr.heap.size := ⟨_, rfl⟩
        rw [← hw4, ← hgP] at HL0
        rw [← hw4, ← hgP]
        clear hw4 hgP HS
        go_loopw [58, 9, 14, 15] (fun i sl _ _ wx => ∃ (j m c : Nat) (a b n : Int) (r : List Int) (A : Option Addr), j ≤ 3 ∧ i = .int .i64 j ∧ sl = .slice A m c ∧ m ≤ c ∧ Hid (ParS o (wt.map fun u => parN (tkR u)) j a b n r) ∧ Hid (Lp w wx g5 gP o a b n A m r)) (fun i _ _ _ _ => 3 - (intOf i).toNat)
        case atStart => exact ⟨0, k, c9, 0, 0, 0, _, A9, by omega, rfl, rfl, hk9, Lib.hid ⟨rfl, rfl, rfl, rfl⟩, HL0⟩
        case round =>
          obtain ⟨j, m, c, a, b, n, r, A, hj, rfl, rfl, hmc, HPS, HL⟩ := hrel
          clear HL0
          have hmr : r.length = m := HL.out.rd.len
          have CP := HL.out.pp.cell
          have hj4 : j = 0 ∨ j = 1 ∨ j = 2 ∨ j = 3 := by omega
          rcases hj4 with rfl | rfl | rfl | rfl
          · obtain ⟨u, hu⟩ : ∃ u, u = uA o := ⟨_, rfl⟩
            have hix := arr_at0 la lb lz
            have HU := Lib.hid hu.symm
            clear hu
            cases u
            · have hneg : la < 0 := by rw [HLA.out, HU.out]; decide
              go_wp2
              go_roundw
              case rel => exact ⟨1, m, c, a, b, n, r, A, by omega, by go_num, rfl, hmc, Lib.hid (HPS.out.z0 HU.out), HL⟩
              case measure => simp [intOf]
            · have hneg : ¬ la < 0 := by rw [HLA.out, HU.out]; decide
              cases r with
              | nil =>
                obtain rfl : 0 = m := hmr
                have R5 := HL.out.res.cell
                have F5 := HL.out.res.free
                have HBB := Lib.hid HL.out.bel
                have HNO := Lib.hid (show NoA l from fun o' a' b' n' hy he => by
                  obtain ⟨e1, e2⟩ := runs_of HWS.out HWT.out HO.out hy he
                  exact HPS.out.no0 HU.out e2)
                go_wp2
                refine bodyPost_ret (v := .tuple #[insV 0 0 0 0, .bool false]) (by simp [results, Tryd.results10, go_sem, R5]) rfl ?_
                exact ⟨0, 0, 0, 0, false, rfl, ⟨⟨rfl, rfl, rfl, rfl⟩, HNO.out⟩, (((HBB.out.setCell (Nat.le_refl _) _).setCell (Nat.le_refl _) _).setCell (Nat.le_refl _) _).setCell (Nat.le_refl _) _⟩
              | cons x r =>
                have hm1 : m = r.length + 1 := hmr.symm
                obtain ⟨bN, oN, rfl, hbN, hcN⟩ := HL.out.rd.2 (by omega)
                have dc := hcN 0 _ (show (I (x :: r))[0]? = some (.int .i64 x) from rfl)
                rw [Nat.add_zero] at dc
                have hne : g5 ≠ bN := fun e => HL.out.ne (by rw [e]; rfl)
                have CB := HL.out.bx.cell
                have FB := HL.out.bx.free
                have mb0 : ((m : Int) == 0) = false := by simp; omega
                have m1 : (1 : Int) ≤ (m : Int) := by omega
                have m2 : 0 < m := by omega
                have m3 : (0 : Int) < (m : Int) := by omega
                have mc : (m : Int) ≤ (c : Int) := by omega
                have HMR := Lib.hid hm1
                have HPN := Lib.hid (HPS.out.s0 (x := x) (r' := r) (by rw [HU.out]; rfl))
                have HMC := Lib.hid hmc
                clear hmr hm1 hbN hcN
                go_upto_region 19 with (fail)
                have HLD := Lib.hid HL.out.drew
                have dc0 : wr.cell? ⟨bN, oN, none⟩ = some (.int .i64 x) := dc
                have cc0 : wr.drew.cell? ⟨bN, oN, none⟩ = some (.int .i64 x) := dc
                have CD := HLD.out.bx.cell
                have FD := HLD.out.bx.free
                have HLP := Lib.hid (HL.out.put1 hmc).drew
                clear dc
                by_cases hc1 : c = 1
                · subst hc1
                  have hm0 : m - 1 = 0 := by omega
                  rw [if_pos rfl, hm0] at HLP
                  clear hm0
                  go_region_held3 (fun w' => w'.cell? ⟨bN, oN, none⟩ = some (.int .i64 x))
                    (first | (with_reducible exact q0) | (with_reducible exact cc0) | (with_reducible exact dc0) | (repeat (first | (with_reducible exact q0) | (with_reducible exact cc0) | (with_reducible exact dc0) | (with_reducible refine ksetP hne.symm ?_) | (with_reducible refine kdrewP ?_)))) (fail)
                  all_goals
                    go_wp2_with fail
                    go_roundw
                    case rel => exact ⟨1, 0, 0, x, b, n, r, some ⟨bN, oN, none⟩, by omega, by go_num, rfl, Nat.le_refl _, HPN, HLP⟩
                    case measure => simp [intOf]
                · rw [if_neg hc1] at HLP
                  go_region_held3 (fun w' => w'.cell? ⟨bN, oN, none⟩ = some (.int .i64 x))
                    (first | (with_reducible exact q0) | (with_reducible exact cc0) | (with_reducible exact dc0) | (repeat (first | (with_reducible exact q0) | (with_reducible exact cc0) | (with_reducible exact dc0) | (with_reducible refine ksetP hne.symm ?_) | (with_reducible refine kdrewP ?_)))) (fail)
                  all_goals
                    go_wp2_with fail
                    go_roundw
                    case rel => exact ⟨1, m - 1, c - 1, x, b, n, r, some ⟨bN, oN + 1, none⟩, by omega, by go_num, rfl, by omega, HPN, HLP⟩
                    case measure => simp [intOf]
          · obtain ⟨u, hu⟩ : ∃ u, u = uB o := ⟨_, rfl⟩
            have hix := arr_at1 la lb lz
            have HU := Lib.hid hu.symm
            clear hu
            cases u
            · have hneg : lb < 0 := by rw [HLB.out, HU.out]; decide
              go_wp2
              go_roundw
              case rel => exact ⟨2, m, c, a, b, n, r, A, by omega, by go_num, rfl, hmc, Lib.hid (HPS.out.z1 HU.out), HL⟩
              case measure => simp [intOf]
            · have hneg : ¬ lb < 0 := by rw [HLB.out, HU.out]; decide
              cases r with
              | nil =>
                obtain rfl : 0 = m := hmr
                have R5 := HL.out.res.cell
                have F5 := HL.out.res.free
                have HBB := Lib.hid HL.out.bel
                have HNO := Lib.hid (show NoA l from fun o' a' b' n' hy he => by
                  obtain ⟨e1, e2⟩ := runs_of HWS.out HWT.out HO.out hy he
                  exact HPS.out.no1 HU.out e2)
                go_wp2
                refine bodyPost_ret (v := .tuple #[insV 0 0 0 0, .bool false]) (by simp [results, Tryd.results10, go_sem, R5]) rfl ?_
                exact ⟨0, 0, 0, 0, false, rfl, ⟨⟨rfl, rfl, rfl, rfl⟩, HNO.out⟩, (((HBB.out.setCell (Nat.le_refl _) _).setCell (Nat.le_refl _) _).setCell (Nat.le_refl _) _).setCell (Nat.le_refl _) _⟩
              | cons x r =>
                have hm1 : m = r.length + 1 := hmr.symm
                obtain ⟨bN, oN, rfl, hbN, hcN⟩ := HL.out.rd.2 (by omega)
                have dc := hcN 0 _ (show (I (x :: r))[0]? = some (.int .i64 x) from rfl)
                rw [Nat.add_zero] at dc
                have hne : g5 ≠ bN := fun e => HL.out.ne (by rw [e]; rfl)
                have CB := HL.out.bx.cell
                have FB := HL.out.bx.free
                have mb0 : ((m : Int) == 0) = false := by simp; omega
                have m1 : (1 : Int) ≤ (m : Int) := by omega
                have m2 : 0 < m := by omega
                have m3 : (0 : Int) < (m : Int) := by omega
                have mc : (m : Int) ≤ (c : Int) := by omega
                have HMR := Lib.hid hm1
                have HPN := Lib.hid (HPS.out.s1 (x := x) (r' := r) (by rw [HU.out]; rfl))
                have HMC := Lib.hid hmc
                clear hmr hm1 hbN hcN
                go_upto_region 19 with (fail)
                have HLD := Lib.hid HL.out.drew
                have dc0 : wr.cell? ⟨bN, oN, none⟩ = some (.int .i64 x) := dc
                have cc0 : wr.drew.cell? ⟨bN, oN, none⟩ = some (.int .i64 x) := dc
                have CD := HLD.out.bx.cell
                have FD := HLD.out.bx.free
                have HLP := Lib.hid (HL.out.put2 hmc).drew
                clear dc
                by_cases hc1 : c = 1
                · subst hc1
                  have hm0 : m - 1 = 0 := by omega
                  rw [if_pos rfl, hm0] at HLP
                  clear hm0
                  go_region_held3 (fun w' => w'.cell? ⟨bN, oN, none⟩ = some (.int .i64 x))
                    (first | (with_reducible exact q0) | (with_reducible exact cc0) | (with_reducible exact dc0) | (repeat (first | (with_reducible exact q0) | (with_reducible exact cc0) | (with_reducible exact dc0) | (with_reducible refine ksetP hne.symm ?_) | (with_reducible refine kdrewP ?_)))) (fail)
                  all_goals
                    go_wp2_with fail
                    go_roundw
                    case rel => exact ⟨2, 0, 0, a, x, n, r, some ⟨bN, oN, none⟩, by omega, by go_num, rfl, Nat.le_refl _, HPN, HLP⟩
                    case measure => simp [intOf]
                · rw [if_neg hc1] at HLP
                  go_region_held3 (fun w' => w'.cell? ⟨bN, oN, none⟩ = some (.int .i64 x))
                    (first | (with_reducible exact q0) | (with_reducible exact cc0) | (with_reducible exact dc0) | (repeat (first | (with_reducible exact q0) | (with_reducible exact cc0) | (with_reducible exact dc0) | (with_reducible refine ksetP hne.symm ?_) | (with_reducible refine kdrewP ?_)))) (fail)
                  all_goals
                    go_wp2_with fail
                    go_roundw
                    case rel => exact ⟨2, m - 1, c - 1, a, x, n, r, some ⟨bN, oN + 1, none⟩, by omega, by go_num, rfl, by omega, HPN, HLP⟩
                    case measure => simp [intOf]
          · obtain ⟨u, hu⟩ : ∃ u, u = uZ o := ⟨_, rfl⟩
            have hix := arr_at2 la lb lz
            have HU := Lib.hid hu.symm
            clear hu
            cases u
            · have hneg : lz < 0 := by rw [HLZ.out, HU.out]; simp [lim]
              go_wp2
              go_roundw
              case rel => exact ⟨3, m, c, a, b, n, r, A, by omega, by go_num, rfl, hmc, Lib.hid (HPS.out.z2 HU.out), HL⟩
              case measure => simp [intOf]
            · have hneg : ¬ lz < 0 := by rw [HLZ.out, HU.out]; exact (by have := uN_nn o; unfold lim; simp; omega)
              cases r with
              | nil =>
                obtain rfl : 0 = m := hmr
                have R5 := HL.out.res.cell
                have F5 := HL.out.res.free
                have HBB := Lib.hid HL.out.bel
                have HNO := Lib.hid (show NoA l from fun o' a' b' n' hy he => by
                  obtain ⟨e1, e2⟩ := runs_of HWS.out HWT.out HO.out hy he
                  exact HPS.out.no2 HU.out e2)
                go_wp2
                refine bodyPost_ret (v := .tuple #[insV 0 0 0 0, .bool false]) (by simp [results, Tryd.results10, go_sem, R5]) rfl ?_
                exact ⟨0, 0, 0, 0, false, rfl, ⟨⟨rfl, rfl, rfl, rfl⟩, HNO.out⟩, (((HBB.out.setCell (Nat.le_refl _) _).setCell (Nat.le_refl _) _).setCell (Nat.le_refl _) _).setCell (Nat.le_refl _) _⟩
              | cons x r =>
                have hm1 : m = r.length + 1 := hmr.symm
                obtain ⟨bN, oN, rfl, hbN, hcN⟩ := HL.out.rd.2 (by omega)
                have dc := hcN 0 _ (show (I (x :: r))[0]? = some (.int .i64 x) from rfl)
                rw [Nat.add_zero] at dc
                have hne : g5 ≠ bN := fun e => HL.out.ne (by rw [e]; rfl)
                have CB := HL.out.bx.cell
                have FB := HL.out.bx.free
                have mb0 : ((m : Int) == 0) = false := by simp; omega
                have m1 : (1 : Int) ≤ (m : Int) := by omega
                have m2 : 0 < m := by omega
                have m3 : (0 : Int) < (m : Int) := by omega
                have mc : (m : Int) ≤ (c : Int) := by omega
                have HMR := Lib.hid hm1
                have HPN := Lib.hid (HPS.out.s2 (x := x) (r' := r) (by rw [HU.out]; rfl))
                have HMC := Lib.hid hmc
                clear hmr hm1 hbN hcN
                go_upto_region 19 with (fail)
                have HLD := Lib.hid HL.out.drew
                have dc0 : wr.cell? ⟨bN, oN, none⟩ = some (.int .i64 x) := dc
                have cc0 : wr.drew.cell? ⟨bN, oN, none⟩ = some (.int .i64 x) := dc
                have CD := HLD.out.bx.cell
                have FD := HLD.out.bx.free
                have HLP := Lib.hid (HL.out.put3 hmc).drew
                clear dc
                by_cases hc1 : c = 1
                · subst hc1
                  have hm0 : m - 1 = 0 := by omega
                  rw [if_pos rfl, hm0] at HLP
                  clear hm0
                  go_region_held3 (fun w' => w'.cell? ⟨bN, oN, none⟩ = some (.int .i64 x))
                    (first | (with_reducible exact q0) | (with_reducible exact cc0) | (with_reducible exact dc0) | (repeat (first | (with_reducible exact q0) | (with_reducible exact cc0) | (with_reducible exact dc0) | (with_reducible refine ksetP hne.symm ?_) | (with_reducible refine kdrewP ?_)))) (fail)
                  all_goals
                    go_wp2_with fail
                    go_roundw
                    case rel => exact ⟨3, 0, 0, a, b, x, r, some ⟨bN, oN, none⟩, by omega, by go_num, rfl, Nat.le_refl _, HPN, HLP⟩
                    case measure => simp [intOf]
                · rw [if_neg hc1] at HLP
                  go_region_held3 (fun w' => w'.cell? ⟨bN, oN, none⟩ = some (.int .i64 x))
                    (first | (with_reducible exact q0) | (with_reducible exact cc0) | (with_reducible exact dc0) | (repeat (first | (with_reducible exact q0) | (with_reducible exact cc0) | (with_reducible exact dc0) | (with_reducible refine ksetP hne.symm ?_) | (with_reducible refine kdrewP ?_)))) (fail)
                  all_goals
                    go_wp2_with fail
                    go_roundw
                    case rel => exact ⟨3, m - 1, c - 1, a, b, x, r, some ⟨bN, oN + 1, none⟩, by omega, by go_num, rfl, by omega, HPN, HLP⟩
                    case measure => simp [intOf]
          · have CB := HL.out.bx.cell
            obtain ⟨g, hg⟩ : ∃ g, g = insB o a b n := ⟨_, rfl⟩
            have HG := Lib.hid hg.symm
            clear hg hmr
            go_wp2_with fail
            refine (i_IsInstruction_eq HG.out _).mono ?_
            rintro e w7 ⟨rfl, hb7⟩
            have HL7 := Lib.hid (HL.out.keep hb7)
            clear hb7 CB CP
            cases g
            · have R5 := HL7.out.res.cell
              have F5 := HL7.out.res.free
              have HBB := Lib.hid HL7.out.bel
              have HNO := Lib.hid (show NoA l from fun o' a' b' n' hy he => by
                obtain ⟨e1, e2⟩ := runs_of HWS.out HWT.out HO.out hy he
                obtain ⟨e3, e4, e5⟩ := HPS.out.all e2
                subst e1 e3 e4 e5
                rw [HG.out] at hy; cases hy)
              go_wp2
              refine bodyPost_ret (v := .tuple #[insV 0 0 0 0, .bool false]) (by simp [results, Tryd.results10, go_sem, R5]) rfl ?_
              exact ⟨0, 0, 0, 0, false, rfl, ⟨⟨rfl, rfl, rfl, rfl⟩, HNO.out⟩, (((HBB.out.setCell (Nat.le_refl _) _).setCell (Nat.le_refl _) _).setCell (Nat.le_refl _) _).setCell (Nat.le_refl _) _⟩
            · have CB := HL7.out.bx.cell
              go_wp2_with fail
              refine (i_assemblyText_ins HG.out _ (HE0.out.keep HL7.out.bel).tab (HE0.out.keep HL7.out.bel).nms).mono ?_
              rintro e w8 ⟨rfl, hb8⟩
              have HL8 := Lib.hid (HL7.out.keep hb8)
              clear hb8 CB
              by_cases heq : asmL o a b n = l
              · have HEQ := Lib.hid heq
                rw [heq]
                clear heq
                have R5 := HL8.out.res.cell
                have F5 := HL8.out.res.free
                have CB := HL8.out.bx.cell
                have HBB := Lib.hid HL8.out.bel
                go_wp2
                refine bodyPost_ret (v := .tuple #[insV o a b n, .bool true]) (by simp [results, Tryd.results10, go_sem, R5]) rfl ?_
                exact ⟨o, a, b, n, true, rfl, ⟨HG.out, HEQ.out⟩, (((HBB.out.setCell (Nat.le_refl _) _).setCell (Nat.le_refl _) _).setCell (Nat.le_refl _) _).setCell (Nat.le_refl _) _⟩
              · have HEQ := Lib.hid heq
                have hbeq : (asmL o a b n == l) = false := by simp [heq]
                clear heq
                have R5 := HL8.out.res.cell
                have F5 := HL8.out.res.free
                have HBB := Lib.hid HL8.out.bel
                have HNO := Lib.hid (show NoA l from fun o' a' b' n' hy he => by
                  obtain ⟨e1, e2⟩ := runs_of HWS.out HWT.out HO.out hy he
                  obtain ⟨e3, e4, e5⟩ := HPS.out.all e2
                  subst e1 e3 e4 e5
                  exact HEQ.out he)
                go_wp2
                refine bodyPost_ret (v := .tuple #[insV 0 0 0 0, .bool false]) (by simp [results, Tryd.results10, go_sem, R5]) rfl ?_
                exact ⟨0, 0, 0, 0, false, rfl, ⟨⟨rfl, rfl, rfl, rfl⟩, HNO.out⟩, (((HBB.out.setCell (Nat.le_refl _) _).setCell (Nat.le_refl _) _).setCell (Nat.le_refl _) _).setCell (Nat.le_refl _) _⟩
end Go.Proofs.YtlahpnihnpmgoaaDoor
