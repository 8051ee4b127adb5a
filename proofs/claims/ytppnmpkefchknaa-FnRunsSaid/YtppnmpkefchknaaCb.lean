/- Contracts of CompactMoves in the program and in the reference. Lengths at most 2^20. -/
import Derived.Test.YtppnmpkefchknaaCa
import Derived.Test.YtppnmpkefchknaaSe
import Derived.Test.YtppnmpkefchknaaFa
namespace Go.Proofs.Ytppnmpkefchknaa
open Go.RowKit
set_option linter.unusedVariables false
set_option linter.unusedSimpArgs false

def selA {α : Type} (b : Bool) (l : List α) : List α := if b then l else []
/-- where the first free frame is, or -1 -/
def FrAt (l : List Int) (r : Int) : Prop := (r = -1 ∧ frL l = l.length) ∨ (∃ t : Nat, r = t ∧ t < l.length ∧ frL l = t)
set_option maxHeartbeats 1000000 in
theorem index0_any (A : Option Addr) (n c : Nat) (xs : List Int) (w : World) (hr : Rd w 1 A n (I xs)) (hn : n ≤ 1048576) :
    Calls Try.prog 73 #[.slice A n c, .int .i64 0] w fun e w' => ∃ r, e = .returned (.int .i64 r) ∧ FrAt xs r ∧ w = w' := by
  have HL := Lib.hid hr.len
  go_enter Try.func73, Try.ntmps73
  go_wp2
  go_loop [5, 8] (fun j i => ∃ k : Nat, k ≤ n ∧ i = .int .i64 k ∧ Hid (∀ (j : Nat) (x : Int), j < k → xs[j]? = some x → x ≠ 0)) (fun _ i => n - (intOf i).toNat)
  case atStart => exact ⟨0, Nat.zero_le _, rfl, fun j x h => by omega⟩
  case round =>
    obtain ⟨k, hk, rfl, ht⟩ := hrel
    by_cases hlt : k < n
    · obtain ⟨b, o, x, rfl, hbl, hxk, hc⟩ := hr.at_ hlt
      by_cases hx0 : x = 0
      · subst hx0
        go_wp2
        go_ret
        exact ⟨_, rfl, .inr ⟨k, rfl, by have := HL.out; omega, frL_eq ht.out (fun _ => hxk.out) (by have := HL.out; omega)⟩, rfl⟩
      · have hne : ((0 : Int) == x) = false := by simp; omega
        have HX := Lib.hid hx0
        clear hx0
        go_wp2
        go_round
        case rel =>
          refine ⟨k + 1, by omega, by go_num, fun j y hj hy => ?_⟩
          by_cases hjk : j = k
          · subst hjk
            have := hxk.out
            rw [hy] at this
            rw [Option.some.inj this]; exact HX.out
          · exact ht.out j y (by omega) hy
        case measure => simp [intOf] <;> omega
    · go_wp2
      go_ret
      have hl := HL.out
      exact ⟨_, rfl, .inl ⟨rfl, by rw [hl]; exact frL_eq (fun j x hj hx => ht.out j x (by omega) hx) (fun h => by omega) (by omega)⟩, rfl⟩

/-- two slices of the call's own: the moves so far, and the owners as they are -/
def CpInv (w : World) (l0 : List Int) (go co : Nat) (mv : Value) (wr : World) : Prop :=
  ∃ A c m l k n, mv = .slice A n c ∧ Hid (n = m.length) ∧ Sep w wr [tsA2 A n c m, ti (some ⟨go, 0, none⟩) l0.length co l] ∧ Hid (CmInv l0 m l k) ∧ n ≤ l0.length
def lenOf : Value → Nat
  | .slice _ n _ => n
  | _ => 0
theorem two_stores {w : World} {B g n c t p : Nat} {l : List Int} {x : Int} (h : Own w B (ti (some ⟨g, 0, none⟩) n c l)) (hp : l[p]? = some x) (htp : t ≠ p) :
    Own ((w.setCell ⟨g, t, none⟩ (.int .i64 x)).setCell ⟨g, p, none⟩ (.int .i64 0)) B (ti (some ⟨g, 0, none⟩) n c (mvL l t p)) ∧ w.grownBy ((w.setCell ⟨g, t, none⟩ (.int .i64 x)).setCell ⟨g, p, none⟩ (.int .i64 0)) (some g) := by
  have h1 := World.ownsRow.stored h t (.int .i64 x)
  have h2 := World.ownsRow.stored h1.1 p (.int .i64 0)
  rw [I_set, I_set] at h2
  refine ⟨?_, World.grownBy.trans h1.2 h2.2⟩
  have e : mvL l t p = (l.set t x).set p 0 := by unfold mvL; rw [hp]; rfl
  show Own _ B (ti _ n c (mvL l t p))
  rw [e]; exact h2.1
theorem cp_step {w wo w3 : World} {A1 A' : Option Addr} {n1 c1 c' go N co p t : Nat} {m : List RA2} {l : List Int} {x : Int} (S : Sep w wo [tsA2 A1 n1 c1 m, ti (some ⟨go, 0, none⟩) N co l]) (hl : l.length = N) (ht : l[t]? = some 0) (hx : l[p]? = some x) (htp : t ≠ p)
    (hown : w3.ownsRow w.heap.size 58 2 (.slice A' (n1 + 1) c') (n1 + 1) (J cA2 m ++ [.int .i64 (p : Int), .int .i64 (t : Int)])) (o : Obj) (hgrow : (wo.alloc o).grownBy w3 (blk A1)) (hat : blk A' = blk A1 ∨ blk A' = some (wo.alloc o).heap.size) :
    Sep w w3 [tsA2 A' (n1 + 1) c' (m ++ [RA2.mk (p : Int) (t : Int)]), ti (some ⟨go, 0, none⟩) N co l] ∧ w3.cell? ⟨go, t, none⟩ = some (.int .i64 0) ∧ w3.cell? ⟨go, p, none⟩ = some (.int .i64 x) ∧ (∀ q, w3.frozen? ⟨go, q, none⟩ = false) ∧
      Own ((w3.setCell ⟨go, t, none⟩ (.int .i64 x)).setCell ⟨go, p, none⟩ (.int .i64 0)) w.heap.size (ti (some ⟨go, 0, none⟩) N co (mvL l t p)) ∧ w3.grownBy ((w3.setCell ⟨go, t, none⟩ (.int .i64 x)).setCell ⟨go, p, none⟩ (.int .i64 0)) (some go) := by
  have ho : Own w3 w.heap.size (tsA2 A' (n1 + 1) c' (m ++ [RA2.mk (p : Int) (t : Int)])) := by
    show w3.ownsRow _ _ _ _ _ (J cA2 (m ++ [RA2.mk (p : Int) (t : Int)]))
    rw [J_append]; exact hown
  have S3 : Sep w w3 [tsA2 A' (n1 + 1) c' (m ++ [RA2.mk (p : Int) (t : Int)]), ti (some ⟨go, 0, none⟩) N co l] := (S.below (below_alloc wo o)).app 0 (t' := tsA2 A' (n1 + 1) c' (m ++ [RA2.mk (p : Int) (t : Int)])) rfl hgrow hat ho
  have hO3 : Own w3 w.heap.size (ti (some ⟨go, 0, none⟩) N co l) := S3.own 1 _ rfl
  have htl := (List.getElem?_eq_some_iff.1 ht).1
  have hpl := (List.getElem?_eq_some_iff.1 hx).1
  refine ⟨S3, ?_, ?_, fun q => World.ownsRow.frozenAt hO3 q, two_stores hO3 hx htp⟩
  · rw [World.ownsRow.cellAt hO3 t (by show t < N * 1; omega), I_get (by omega), ht]; rfl
  · rw [World.ownsRow.cellAt hO3 p (by show p < N * 1; omega), I_get (by omega), hx]; rfl
/-- where the loop that looks for the last frame that is not free stands -/
def BkInv (l : List Int) (N : Nat) (f : Value) : Prop :=
  ∃ p : Nat, p ≤ N ∧ Hid (∀ (j : Nat) (x : Int), p ≤ j → l[j]? = some x → x = 0) ∧ ((p = 0 ∧ f = .int .i64 (-1)) ∨ (∃ p' : Nat, p = p' + 1 ∧ f = .int .i64 (p' : Int)))
theorem BkInv.back {l : List Int} {N p : Nat} (hp : p < N) (h : ∀ (j : Nat) (x : Int), p + 1 ≤ j → l[j]? = some x → x = 0) (h0 : l[p]? = some 0) : BkInv l N (.int .i64 ((p : Int) - 1)) := by
  refine ⟨p, by omega, fun j x hj hx => ?_, ?_⟩
  · by_cases e : j = p
    · subst e; rw [h0] at hx; exact (Option.some.inj hx).symm
    · exact h j x (by omega) hx
  · match p with
    | 0 => exact .inl ⟨rfl, by simp⟩
    | q + 1 => exact .inr ⟨q, rfl, congrArg (Value.int .i64) (by omega)⟩
/-- the results, where the loop ends -/
theorem cp_end {w wr : World} {l0 : List Int} {m : List RA2} {l : List Int} {A : Option Addr} {n c go co k : Nat} (S : Sep w wr [tsA2 A n c m, ti (some ⟨go, 0, none⟩) l0.length co l]) (hI : CmInv l0 m l k) (hs : ¬ frL l < nzL l - 1) (hn : n = m.length) :
    ∃ B0 d0 B1 d1, Ending.returned (.tuple #[.slice A n c, .slice (some ⟨go, 0, none⟩) l0.length co, .bool true]) = .returned (.tuple #[.slice B0 (selA true (cmF l0.length l0).1).length d0, .slice B1 (selL true (cmF l0.length l0).2).length d1, .bool true]) ∧
      Own wr w.heap.size (tsA2 B0 (selA true (cmF l0.length l0).1).length d0 (selA true (cmF l0.length l0).1)) ∧ Own wr w.heap.size (ti B1 (selL true (cmF l0.length l0).2).length d1 (selL true (cmF l0.length l0).2)) ∧ (blk B0 = none ∨ blk B0 ≠ blk B1) ∧ Below w.heap.size w wr := by
  obtain ⟨e1, e2⟩ := hI.stop hs
  have e3 : l0.length = (cmF l0.length l0).2.length := (cmF_len _ _).1.symm
  rw [selA, if_pos rfl, selL, if_pos rfl, ← e1, ← e2]
  have e4 : l.length = l0.length := hI.2.1
  rw [e4, ← hn]
  exact ⟨_, _, _, _, rfl, S.own 0 _ rfl, S.own 1 _ rfl, S.apart 0 1 _ _ (by decide) rfl rfl, S.bel⟩

set_option maxHeartbeats 8000000 in
theorem i_CompactMoves_any (A : Option Addr) (n c : Nat) (xs : List Int) (w : World) (hr : Rd w 1 A n (I xs)) (hn : n ≤ 1048576) :
    Calls Try.prog 40 #[.slice A n c] w fun e w' => ∃ B0 d0 B1 d1, e = .returned (.tuple #[.slice B0 (selA (ownB xs) (cmF xs.length xs).1).length d0, .slice B1 (selL (ownB xs) (cmF xs.length xs).2).length d1, .bool (ownB xs)]) ∧
      Own w' w.heap.size (tsA2 B0 (selA (ownB xs) (cmF xs.length xs).1).length d0 (selA (ownB xs) (cmF xs.length xs).1)) ∧ Own w' w.heap.size (ti B1 (selL (ownB xs) (cmF xs.length xs).2).length d1 (selL (ownB xs) (cmF xs.length xs).2)) ∧ (blk B0 = none ∨ blk B0 ≠ blk B1) ∧ Below w.heap.size w w' := by
  have hl := hr.len
  subst hl
  cases h0 : ownB xs
  all_goals have H0 := Lib.hid h0
  · clear h0
    go_enter Try.func40, Try.ntmps40
    go_wp2_with fail
    refine (i_AreOwners_eq _ _ _ xs _ hr (by omega) _ H0.out).mono ?_
    rintro e w1 ⟨rfl, rfl⟩
    go_wp2
    go_ret3
    exact ⟨none, 0, none, 0, rfl, World.ownsRow_nil _ _ _ _, own_nil _ _, .inl rfl, Below.refl _ _⟩
  · have hpos : 0 < xs.length := by
      simp only [ownB, Bool.and_eq_true] at h0
      have := inB_iff.1 h0.1; omega
    clear h0
    obtain ⟨i0, hi, hz0, hz1, hz2⟩ := info_parts Try.info58
    have S0 := (Sep.start w).new (below_alloc w (.cells #[] 58)) (t := tsA2 (some ⟨w.heap.size, 0, none⟩) 0 0 []) (own_empty 2 (Box.new w _ _) (Nat.le_refl _))
    go_enter Try.func40, Try.ntmps40
    go_wp2_with fail
    refine (i_AreOwners_eq _ _ _ xs _ hr (by omega) _ H0.out).mono ?_
    rintro e w1 ⟨rfl, rfl⟩
    go_wp2_with fail
    refine (copyInts_any _ _ _ xs _ (hr.keep (below_alloc w _)) hn).mono ?_
    rintro e w1 ⟨A2, co, rfl, ho, hb⟩
    obtain ⟨go, rfl⟩ := own_some ho hpos
    have S1 := S0.new hb ho
    have HS1 := Lib.hid S1
    clear S0 S1 ho
    go_wp2
    go_loopw [5] (fun mv wr => CpInv w xs go co mv wr) (fun mv _ => xs.length - lenOf mv)
    case atStart => exact ⟨_, _, [], xs, xs.length, 0, rfl, rfl, HS1.out, CmInv.start xs, Nat.zero_le _⟩
    case round =>
      obtain ⟨A1, c1, m, l, k, n1, rfl, hn1, hS, hI, hn2⟩ := hrel
      have HSS := Lib.hid hS
      have hrd : Rd wr 1 (some ⟨go, 0, none⟩) xs.length (I l) := (hS.own 1 _ rfl).rd
      have Hrd := Lib.hid hrd
      obtain ⟨wo, rfl⟩ : ∃ wo : World, wo = wr := ⟨_, rfl⟩
      clear hS hrd
      go_wp2_with fail
      refine (index0_any _ _ _ l _ Hrd.out hn).mono ?_
      rintro e w2 ⟨r, rfl, hF, rfl⟩
      have hll : l.length = xs.length := hI.out.2.1
      have HLL := Lib.hid hll
      rcases hF with ⟨rfl, hF⟩ | ⟨t, rfl, htl, hF⟩
      · have HF := Lib.hid hF
        clear hF hll
        go_wp2
        go_loop [8] (fun f => BkInv l xs.length f) (fun f => (intOf f + 1).toNat)
        case atStart => exact ⟨xs.length, Nat.le_refl _, fun j x hj hx => by (have := (List.getElem?_eq_some_iff.1 hx).1; have := HLL.out; omega), .inr ⟨xs.length - 1, by omega, congrArg (Value.int .i64) (by omega)⟩⟩
        case round =>
          have HST := Lib.hid (show ¬ frL l < nzL l - 1 by have := nzL_le l; have := HF.out; omega)
          obtain ⟨p, hp, hz, hpf⟩ := hrel
          rcases hpf with ⟨rfl, rfl⟩ | ⟨p', rfl, rfl⟩
          · go_wp2
            go_ret3
            exact cp_end HSS.out hI.out HST.out hn1.out
          · obtain ⟨b, o, x, he, hbl, hxk, hc⟩ := Hrd.out.at_ (k := p') (by omega)
            cases he
            rw [Nat.zero_add] at hc
            by_cases hx0 : x = 0
            · subst hx0
              go_wp2
              go_round
              case rel => exact BkInv.back (by omega) hz.out hxk.out
              case measure => simp [intOf] <;> omega
            · have hne : (x == 0) = false := by simp; omega
              clear hx0
              go_wp2
              go_ret3
              exact cp_end HSS.out hI.out HST.out hn1.out
      · have HF := Lib.hid hF
        clear hF hll
        go_wp2
        go_loop [8] (fun f => BkInv l xs.length f) (fun f => (intOf f + 1).toNat)
        case atStart => exact ⟨xs.length, Nat.le_refl _, fun j x hj hx => by (have := (List.getElem?_eq_some_iff.1 hx).1; have := HLL.out; omega), .inr ⟨xs.length - 1, by omega, congrArg (Value.int .i64) (by omega)⟩⟩
        case round =>
          obtain ⟨p, hp, hz, hpf⟩ := hrel
          rcases hpf with ⟨rfl, rfl⟩ | ⟨p', rfl, rfl⟩
          · have HST := Lib.hid (show ¬ frL l < nzL l - 1 by rw [nzL_eq hz.out (by omega)]; omega)
            have htn : (-1 : Int) < (t : Int) := by omega
            go_wp2
            go_ret3
            exact cp_end HSS.out hI.out HST.out hn1.out
          · obtain ⟨b, o, x, he, hbl, hxk, hc⟩ := Hrd.out.at_ (k := p') (by omega)
            cases he
            rw [Nat.zero_add] at hc
            by_cases hx0 : x = 0
            · subst hx0
              go_wp2
              go_round
              case rel => exact BkInv.back (by omega) hz.out hxk.out
              case measure => simp [intOf] <;> omega
            · have hne : (x == 0) = false := by simp; omega
              have HN := Lib.hid (show nzL l = p' + 1 from nzL_eq hz.out (fun _ => ⟨x, hxk.out, hx0⟩))
              have hx0' := Lib.hid hx0
              clear hx0
              by_cases htp : p' < t
              · have HST := Lib.hid (show ¬ frL l < nzL l - 1 by rw [HN.out, HF.out]; omega)
                go_wp2
                go_ret3
                exact cp_end HSS.out hI.out HST.out hn1.out
              · have hat0 : l[t]? = some 0 := by have := frL_at (l := l) (by rw [HF.out]; exact htl); rwa [HF.out] at this
                have htp2 : t ≠ p' := fun e => by
                  subst e
                  have := hxk.out; rw [hat0] at this
                  exact hx0'.out (Option.some.inj this).symm
                have Hat0 := Lib.hid hat0
                clear hat0
                obtain ⟨k', hk', hI'⟩ := hI.out.step (by rw [HN.out, HF.out]; omega)
                have HI' := Lib.hid hI'
                have hn3 : n1 < xs.length := by have := hI.out.2.2.1; have := hn1.out; omega
                clear hI' hk'
                have ht0 : ¬ (t : Int) < 0 := by omega
                have htp3 : ¬ (p' : Int) < (t : Int) := by omega
                have hOw : Own wo w.heap.size (tsA2 A1 n1 c1 m) := HSS.out.own 0 _ rfl
                have hsz : w.heap.size ≤ wo.heap.size := HSS.out.bel.size
                go_wp2_with (at_builtin; refine wpList_app _ rfl _ _ 54 rfl w.heap.size 58 i0 (.agg #[.int .i64 0, .int .i64 0]) 2 16 Try.underlying54 hi hz0 hz1 hz2 rfl (by decide) _ _ _ _ rfl (World.ownsRow.alloc hOw _) _ _ _ _ rfl (Rd.newRow _ #[.int .i64 (p' : Int), .int .i64 (t : Int)] 58 2 1 rfl) (by simp [Value.oneCell']) (by unfold maxLen; omega) (by omega) (by simp; omega) ?_; intro A' c' w3 hown hgrow hat; obtain ⟨S3, hct, hcp, hft, HT⟩ := cp_step HSS.out HLL.out Hat0.out hxk.out htp2 hown _ hgrow hat; have HS3 := Lib.hid S3; have HT := Lib.hid HT; clear S3 hown hgrow hat hOw)
                go_roundw
                case rel =>
                  have S4 := HS3.out.write 1 rfl HT.out.2 (I (mvL l t p')) HT.out.1
                  refine ⟨A', c', m ++ [RA2.mk (p' : Int) (t : Int)], mvL l t p', k', n1 + 1, rfl, ?_, S4, ?_, by omega⟩
                  · show n1 + 1 = _; simp [hn1.out]
                  · have := HI'.out
                    rw [HN.out, HF.out] at this
                    exact this
                case measure => simp [lenOf]; omega
theorem cp_put {w wo : World} {A1 : Option Addr} {n1 c1 go N co p t : Nat} {m : List RA2} {l : List Int} {x : Int} (S : Sep w wo [tsA2 A1 n1 c1 m, ti (some ⟨go, 0, none⟩) N co l]) (hl : l.length = N) (ht : l[t]? = some 0) (hx : l[p]? = some x) (htp : t ≠ p) :
    wo.cell? ⟨go, t, none⟩ = some (.int .i64 0) ∧ wo.cell? ⟨go, p, none⟩ = some (.int .i64 x) ∧ (∀ q, wo.frozen? ⟨go, q, none⟩ = false) ∧
      Sep w ((wo.setCell ⟨go, t, none⟩ (.int .i64 x)).setCell ⟨go, p, none⟩ (.int .i64 0)) [tsA2 A1 n1 c1 m, ti (some ⟨go, 0, none⟩) N co (mvL l t p)] := by
  have hO3 : Own wo w.heap.size (ti (some ⟨go, 0, none⟩) N co l) := S.own 1 _ rfl
  have htl := (List.getElem?_eq_some_iff.1 ht).1
  have hpl := (List.getElem?_eq_some_iff.1 hx).1
  have h2 := two_stores hO3 hx htp
  refine ⟨?_, ?_, fun q => World.ownsRow.frozenAt hO3 q, S.write 1 rfl h2.2 (I (mvL l t p)) h2.1⟩
  · rw [World.ownsRow.cellAt hO3 t (by show t < N * 1; omega), I_get (by omega), ht]; rfl
  · rw [World.ownsRow.cellAt hO3 p (by show p < N * 1; omega), I_get (by omega), hx]; rfl
theorem cp_app {w wo w3 : World} {A1 A' : Option Addr} {n1 c1 c' go N co p t : Nat} {m : List RA2} {l : List Int} (S : Sep w wo [tsA2 A1 n1 c1 m, ti (some ⟨go, 0, none⟩) N co l])
    (hown : w3.ownsRow w.heap.size 58 2 (.slice A' (n1 + 1) c') (n1 + 1) (J cA2 m ++ [.int .i64 (p : Int), .int .i64 (t : Int)])) (o : Obj) (hgrow : (wo.alloc o).grownBy w3 (blk A1)) (hat : blk A' = blk A1 ∨ blk A' = some (wo.alloc o).heap.size) :
    Sep w w3 [tsA2 A' (n1 + 1) c' (m ++ [RA2.mk (p : Int) (t : Int)]), ti (some ⟨go, 0, none⟩) N co l] := by
  have ho : Own w3 w.heap.size (tsA2 A' (n1 + 1) c' (m ++ [RA2.mk (p : Int) (t : Int)])) := by
    show w3.ownsRow _ _ _ _ _ (J cA2 (m ++ [RA2.mk (p : Int) (t : Int)]))
    rw [J_append]; exact hown
  exact (S.below (below_alloc wo o)).app 0 (t' := tsA2 A' (n1 + 1) c' (m ++ [RA2.mk (p : Int) (t : Int)])) rfl hgrow hat ho
/-- where the loop that looks for the first free frame stands -/
def FwInv (l : List Int) (N : Nat) (tv : Value) : Prop := ∃ t : Nat, t ≤ N ∧ tv = .int .i64 (t : Int) ∧ Hid (∀ (j : Nat) (x : Int), j < t → l[j]? = some x → x ≠ 0)

set_option maxHeartbeats 8000000 in
theorem s_CompactMoves_any (A : Option Addr) (n c : Nat) (xs : List Int) (w : World) (hr : Rd w 1 A n (I xs)) (hn : n ≤ 1048576) :
    Calls Try.prog 41 #[.slice A n c] w fun e w' => ∃ B0 d0 B1 d1, e = .returned (.tuple #[.slice B0 (selA (ownB xs) (cmF xs.length xs).1).length d0, .slice B1 (selL (ownB xs) (cmF xs.length xs).2).length d1, .bool (ownB xs)]) ∧
      Own w' w.heap.size (tsA2 B0 (selA (ownB xs) (cmF xs.length xs).1).length d0 (selA (ownB xs) (cmF xs.length xs).1)) ∧ Own w' w.heap.size (ti B1 (selL (ownB xs) (cmF xs.length xs).2).length d1 (selL (ownB xs) (cmF xs.length xs).2)) ∧ (blk B0 = none ∨ blk B0 ≠ blk B1) ∧ Below w.heap.size w w' := by
  have hl := hr.len
  subst hl
  have S0 := (Sep.start w).new (below_alloc w (.cells #[] 58)) (t := tsA2 (some ⟨w.heap.size, 0, none⟩) 0 0 []) (own_empty 2 (Box.new w _ _) (Nat.le_refl _))
  cases h0 : ownB xs
  all_goals have H0 := Lib.hid h0
  · clear h0
    have S1 := S0.new (below_alloc _ (.cells #[] 3)) (t := ti (some ⟨w.heap.size + 1, 0, none⟩) 0 0 []) (own_empty 1 (Box.new1 w _ _ _) (by simp))
    have HS1 := Lib.hid S1
    clear S0 S1
    go_enter Try.func41, Try.ntmps41
    go_wp2_with fail
    refine (l2Good_eq _ _ _ xs _ (hr.keep (below_alloc w _)) (by omega) _ H0.out).mono ?_
    rintro e w1 ⟨rfl, rfl⟩
    go_wp2
    go_ret3
    exact ⟨_, _, _, _, rfl, HS1.out.own 0 _ rfl, HS1.out.own 1 _ rfl, HS1.out.apart 0 1 _ _ (by decide) rfl rfl, HS1.out.bel⟩
  · have hpos : 0 < xs.length := by
      simp only [ownB, Bool.and_eq_true] at h0
      have := inB_iff.1 h0.1; omega
    clear h0
    obtain ⟨i0, hi, hz0, hz1, hz2⟩ := info_parts Try.info58
    go_enter Try.func41, Try.ntmps41
    go_wp2_with fail
    refine (l2Good_eq _ _ _ xs _ (hr.keep (below_alloc w _)) (by omega) _ H0.out).mono ?_
    rintro e w1 ⟨rfl, rfl⟩
    go_wp2_with fail
    refine (l1Own_any _ _ _ xs _ (hr.keep (below_alloc w _)) hn).mono ?_
    rintro e w1 ⟨A2, co, rfl, ho, hb⟩
    obtain ⟨go, rfl⟩ := own_some ho hpos
    have S1 := S0.new hb ho
    have HS1 := Lib.hid S1
    clear S0 S1 ho
    go_wp2
    go_loopw [5] (fun mv wr => CpInv w xs go co mv wr) (fun mv _ => xs.length - lenOf mv)
    case atStart => exact ⟨_, _, [], xs, xs.length, 0, rfl, rfl, HS1.out, CmInv.start xs, Nat.zero_le _⟩
    case round =>
      obtain ⟨A1, c1, m, l, k, n1, rfl, hn1, hS, hI, hn2⟩ := hrel
      have HSS := Lib.hid hS
      have hrd : Rd wr 1 (some ⟨go, 0, none⟩) xs.length (I l) := (hS.own 1 _ rfl).rd
      have Hrd := Lib.hid hrd
      have HLL := Lib.hid hI.out.2.1
      obtain ⟨wo, rfl⟩ : ∃ wo : World, wo = wr := ⟨_, rfl⟩
      clear hS hrd
      go_wp2
      go_loop [7] (fun tv => FwInv l xs.length tv) (fun tv => xs.length - (intOf tv).toNat)
      case atStart => exact ⟨0, Nat.zero_le _, rfl, fun j x h => by omega⟩
      case round =>
        obtain ⟨t, htN, rfl, hzt⟩ := hrel
        by_cases hlt : t < xs.length
        · obtain ⟨b, o, x, he, hbl, hxk, hc⟩ := Hrd.out.at_ (k := t) hlt
          cases he
          rw [Nat.zero_add] at hc
          by_cases hx0 : x = 0
          · subst hx0
            have HF := Lib.hid (show frL l = t from frL_eq hzt.out (fun _ => hxk.out) (by have := HLL.out; omega))
            go_wp2
            go_loop [8] (fun f => BkInv l xs.length f) (fun f => (intOf f + 1).toNat)
            case atStart => exact ⟨xs.length, Nat.le_refl _, fun j x hj hx => by (have := (List.getElem?_eq_some_iff.1 hx).1; have := HLL.out; omega), .inr ⟨xs.length - 1, by omega, congrArg (Value.int .i64) (by omega)⟩⟩
            case round =>
              obtain ⟨p, hp, hz, hpf⟩ := hrel
              rcases hpf with ⟨rfl, rfl⟩ | ⟨p', rfl, rfl⟩
              · have HST := Lib.hid (show ¬ frL l < nzL l - 1 by rw [nzL_eq hz.out (by omega)]; omega)
                have htn : (-1 : Int) ≤ (t : Int) := by omega
                go_wp2
                go_ret3
                exact cp_end HSS.out hI.out HST.out hn1.out
              · obtain ⟨b, o, x, he, hbl, hxk, hc⟩ := Hrd.out.at_ (k := p') (by omega)
                cases he
                rw [Nat.zero_add] at hc
                by_cases hx0 : x = 0
                · subst hx0
                  go_wp2
                  go_round
                  case rel => exact BkInv.back (by omega) hz.out hxk.out
                  case measure => simp [intOf] <;> omega
                · have hne : (x == 0) = false := by simp; omega
                  have HN := Lib.hid (show nzL l = p' + 1 from nzL_eq hz.out (fun _ => ⟨x, hxk.out, hx0⟩))
                  have hx0' := Lib.hid hx0
                  clear hx0
                  by_cases htp : p' ≤ t
                  · have HST := Lib.hid (show ¬ frL l < nzL l - 1 by rw [HN.out, HF.out]; omega)
                    have htq : (p' : Int) ≤ (t : Int) := by omega
                    go_wp2
                    go_ret3
                    exact cp_end HSS.out hI.out HST.out hn1.out
                  · have hat0 : l[t]? = some 0 := by have := frL_at (l := l) (by rw [HF.out]; have := HLL.out; omega); rwa [HF.out] at this
                    have Hat0 := Lib.hid hat0
                    have htp2 : t ≠ p' := by omega
                    clear hat0
                    obtain ⟨k', hk', hI'⟩ := hI.out.step (by rw [HN.out, HF.out]; omega)
                    have HI' := Lib.hid hI'
                    have hn3 : n1 < xs.length := by have := hI.out.2.2.1; have := hn1.out; omega
                    clear hI' hk'
                    have htp3 : ¬ (p' : Int) ≤ (t : Int) := by omega
                    obtain ⟨hct, hcp, hft, hS1⟩ := cp_put HSS.out HLL.out Hat0.out hxk.out htp2
                    have HS1' := Lib.hid hS1
                    have hsz := hS1.bel.size
                    have hRow := Rd.newRow ((wo.setCell ⟨go, t, none⟩ (.int .i64 x)).setCell ⟨go, p', none⟩ (.int .i64 0)) #[.int .i64 (p' : Int), .int .i64 (t : Int)] 58 2 1 rfl
                    rw [show ((wo.setCell ⟨go, t, none⟩ (.int .i64 x)).setCell ⟨go, p', none⟩ (.int .i64 0)).heap.size = wo.heap.size by simp] at hRow
                    have hOw : Own ((wo.setCell ⟨go, t, none⟩ (.int .i64 x)).setCell ⟨go, p', none⟩ (.int .i64 0)) w.heap.size (tsA2 A1 n1 c1 m) := hS1.own 0 _ rfl
                    clear hS1 hc
                    go_wp2_with (at_builtin; refine wpList_app _ rfl _ _ 54 rfl w.heap.size 58 i0 (.agg #[.int .i64 0, .int .i64 0]) 2 16 Try.underlying54 hi hz0 hz1 hz2 rfl (by decide) _ _ _ _ rfl (World.ownsRow.alloc hOw _) _ _ _ _ rfl hRow (by simp [Value.oneCell']) (by unfold maxLen; omega) (by omega) (Nat.le_trans hsz (below_alloc _ _).size) ?_; intro A' c' w3 hown hgrow hat; have HS3 := Lib.hid (cp_app HS1'.out hown _ hgrow hat); clear hown hgrow hat hOw)
                    go_roundw
                    case rel =>
                      refine ⟨A', c', m ++ [RA2.mk (p' : Int) (t : Int)], mvL l t p', k', n1 + 1, rfl, ?_, HS3.out, ?_, by omega⟩
                      · show n1 + 1 = _; simp [hn1.out]
                      · have := HI'.out
                        rw [HN.out, HF.out] at this
                        exact this
                    case measure => simp [lenOf]; omega
          · have hne : (x != 0) = true := by simp; omega
            have HX := Lib.hid hx0
            clear hx0
            go_wp2
            go_round
            case rel =>
              refine ⟨t + 1, by omega, by go_num, fun j y hj hy => ?_⟩
              by_cases hjk : j = t
              · subst hjk
                have := hxk.out
                rw [hy] at this
                rw [Option.some.inj this]; exact HX.out
              · exact hzt.out j y (by omega) hy
            case measure => simp [intOf] <;> omega
        · have HF := Lib.hid (show frL l = t from frL_eq hzt.out (fun h => by have := HLL.out; omega) (by have := HLL.out; omega))
          go_wp2
          go_loop [8] (fun f => BkInv l xs.length f) (fun f => (intOf f + 1).toNat)
          case atStart => exact ⟨xs.length, Nat.le_refl _, fun j x hj hx => by (have := (List.getElem?_eq_some_iff.1 hx).1; have := HLL.out; omega), .inr ⟨xs.length - 1, by omega, congrArg (Value.int .i64) (by omega)⟩⟩
          case round =>
            obtain ⟨p, hp, hz, hpf⟩ := hrel
            rcases hpf with ⟨rfl, rfl⟩ | ⟨p', rfl, rfl⟩
            · have HST := Lib.hid (show ¬ frL l < nzL l - 1 by rw [nzL_eq hz.out (by omega)]; omega)
              have htn : (-1 : Int) ≤ (t : Int) := by omega
              go_wp2
              go_ret3
              exact cp_end HSS.out hI.out HST.out hn1.out
            · obtain ⟨b, o, x, he, hbl, hxk, hc⟩ := Hrd.out.at_ (k := p') (by omega)
              cases he
              rw [Nat.zero_add] at hc
              by_cases hx0 : x = 0
              · subst hx0
                go_wp2
                go_round
                case rel => exact BkInv.back (by omega) hz.out hxk.out
                case measure => simp [intOf] <;> omega
              · have hne : (x == 0) = false := by simp; omega
                have HN := Lib.hid (show nzL l = p' + 1 from nzL_eq hz.out (fun _ => ⟨x, hxk.out, hx0⟩))
                have hx0' := Lib.hid hx0
                clear hx0
                by_cases htp : p' ≤ t
                · have HST := Lib.hid (show ¬ frL l < nzL l - 1 by rw [HN.out, HF.out]; omega)
                  have htq : (p' : Int) ≤ (t : Int) := by omega
                  go_wp2
                  go_ret3
                  exact cp_end HSS.out hI.out HST.out hn1.out
                · exfalso; omega
end Go.Proofs.Ytppnmpkefchknaa
