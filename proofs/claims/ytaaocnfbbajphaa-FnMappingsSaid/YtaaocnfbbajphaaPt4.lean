/- Contracts of the table functions with their results as letters; what a mapped page is translated to, and what unmapping leaves. Tables not too large. -/
import Derived.Test.YtaaocnfbbajphaaVt4
import Derived.IntWalk
namespace Go.Proofs.Ytaaocnfbbajphaa
open Go.RowKit
set_option linter.unusedVariables false
set_option linter.unusedSimpArgs false

/-- a variable of a table -/
structure Tw (wx : World) (g : Nat) (T : Tab) : Prop where
  box : Box wx g 27 #[.slice T.Ad T.D.length T.cd, .slice T.Al T.L.length T.cl]
  td : Td wx T
theorem Tw.keep {w w' : World} {g : Nat} {T : Tab} (h : Tw w g T) (hb : Below w.heap.size w w') : Tw w' g T := ⟨h.box.keep hb, h.td.keep hb⟩
theorem Tw.new {w : World} {T : Tab} (h : Td w T) : Tw (w.alloc (.cells #[.slice T.Ad T.D.length T.cd, .slice T.Al T.L.length T.cl] 27)) w.heap.size T := ⟨Box.new _ _ _, h.keep (below_alloc _ _)⟩
theorem td_new {w w' : World} {T : Tab} (B : Bd T) (S : Sep w w' T.things) : Td w' T := ⟨S.rdT, B, own_cap (S.own 0 _ rfl)⟩
section
variable {T : Tab} {w : World} {p f c x y : Int} {wb b : Bool} {m : Option DE}
theorem i_MapPage_m (h : Td w T) (h1 : (Lit.int .i64 p).wf = true) (h2 : (Lit.int .i64 f).wf = true) (hm : mpR (T.D, T.E) p f wb = m) (hb : m.isSome = b) :
    Calls Try.prog 7 #[tabV T, .int .i64 p, .int .i64 f, .bool wb] w fun e w' => ∃ T' : Tab, e = .returned (.tuple #[tabV T', .bool b]) ∧ Hid (T'.D = oD m) ∧ Hid (T'.E = oE m) ∧ Td w' T' ∧ Below w.heap.size w w' := by
  subst hm hb
  exact (i_MapPage_any T p f wb w h.rd h.bd h.cap _ _ rfl rfl h1 h2).mono fun e w' ⟨T', e1, hD, hE, B, S⟩ => ⟨T', e1, hD, hE, td_new B S, S.bel⟩
theorem s_MapPage_l (h : Td w T) (h1 : (Lit.int .i64 p).wf = true) (h2 : (Lit.int .i64 f).wf = true) (hm : mpR (T.D, T.E) p f wb = m) (hb : m.isSome = b) :
    Calls Try.prog 8 #[tabV T, .int .i64 p, .int .i64 f, .bool wb] w fun e w' => ∃ T' : Tab, e = .returned (.tuple #[tabV T', .bool b]) ∧ Hid (T'.D = oD m) ∧ Hid (T'.E = oE m) ∧ Td w' T' ∧ Below w.heap.size w w' := by
  subst hm hb
  exact (s_MapPage_any T p f wb w h.rd h.bd h.cap _ _ rfl rfl h1 h2).mono fun e w' ⟨T', e1, hD, hE, B, S⟩ => ⟨T', e1, hD, hE, td_new B S, S.bel⟩
theorem i_UnmapPage_m (h : Td w T) (hm : uR T.D T.E p = m) (hb : m.isSome = b) :
    Calls Try.prog 13 #[tabV T, .int .i64 p] w fun e w' => ∃ T' : Tab, e = .returned (.tuple #[tabV T', .bool b]) ∧ Hid (T'.D = oD m) ∧ Hid (T'.E = oE m) ∧ Td w' T' ∧ Below w.heap.size w w' := by
  subst hm hb
  exact (i_UnmapPage_any T p w h.rd h.bd h.cap _ _ rfl rfl).mono fun e w' ⟨T', e1, hD, hE, B, S⟩ => ⟨T', e1, hD, hE, td_new B S, S.bel⟩
theorem s_UnmapPage_m (h : Td w T) (hm : uR T.D T.E p = m) (hb : m.isSome = b) :
    Calls Try.prog 15 #[tabV T, .int .i64 p] w fun e w' => ∃ T' : Tab, e = .returned (.tuple #[tabV T', .bool b]) ∧ Hid (T'.D = oD m) ∧ Hid (T'.E = oE m) ∧ Td w' T' ∧ Below w.heap.size w w' := by
  subst hm hb
  exact (s_UnmapPage_any T p w h.rd h.bd h.cap _ _ rfl rfl).mono fun e w' ⟨T', e1, hD, hE, B, S⟩ => ⟨T', e1, hD, hE, td_new B S, S.bel⟩
theorem i_Translate_m (h : Td w T) (hm : trR T.D T.E p wb = (x, y)) (hb : pageOk T.D T.E p = b) :
    Calls Try.prog 12 #[tabV T, .int .i64 p, .bool wb] w fun e w' => e = .returned (.tuple #[.int .i64 x, .int .i64 y, .bool b]) ∧ Below w.heap.size w w' := by
  have := i_Translate_any T p wb w h.rd h.bd h.cap _ _ rfl rfl
  rw [hm, hb] at this
  exact this
theorem s_Translate_m (h : Td w T) (hm : trR T.D T.E p wb = (x, y)) (hb : pageOk T.D T.E p = b) :
    Calls Try.prog 17 #[tabV T, .int .i64 p, .bool wb] w fun e w' => e = .returned (.tuple #[.int .i64 x, .int .i64 y, .bool b]) ∧ Below w.heap.size w w' := by
  have := s_Translate_any T p wb w h.rd h.bd h.cap _ _ rfl rfl
  rw [hm, hb] at this
  exact this
theorem i_IsTable_m (h : Td w T) (hb : goodB T.D T.E = b) : Calls Try.prog 10 #[tabV T] w fun e w' => e = .returned (.bool b) ∧ Below w.heap.size w w' := i_IsTable_eq T w h.rd h.bd.d h.bd.n h.bd.l b hb
theorem s_IsTable_m (h : Td w T) (hb : goodB T.D T.E = b) : Calls Try.prog 11 #[tabV T] w fun e w' => e = .returned (.bool b) ∧ Below w.heap.size w w' := s_IsTable_eq T w h.rd h.bd h.cap b hb
theorem vTables_m {T' : Tab} (h : Td w T) (h' : Td w T') (hD : T'.D = T.D) (hE : T'.E = T.E) : Calls Try.prog 9 #[tabV T, tabV T'] w fun e w' => e = .returned (.bool true) ∧ Below w.heap.size w w' := vTables_same T T' w h.rd h'.rd h.bd hD hE
end
/-- what a mapping tells -/
theorem map_told {D : List Int} {E : List (List REntry)} {p f : Int} {wb : Bool} {y : DE} (h : mpR (D, E) p f wb = some y) :
    Good D E ∧ ∃ q : Nat, p = q ∧ q < 16 ∧ (0 ≤ f ∧ f ≤ 15) ∧ frO D E q = -1 ∧ y.1 = mapD D E q ∧ y.2 = mapL D E q ⟨f, wb⟩ ∧ Good y.1 y.2 ∧ uR y.1 y.2 q = some (D, E) ∧ entO y.1 y.2 q = some ⟨f, wb⟩ := by
  unfold mpR at h
  split at h
  · rename_i hg
    have hg := goodB_iff.1 hg
    dsimp only at hg
    unfold stepM at h
    split at h
    · rename_i hk
      obtain rfl := Option.some.inj h
      obtain ⟨q, rfl, hq, hf, hfr⟩ := mapOk_yes hk
      have hf2 := inB_iff.1 hf
      dsimp only at hfr
      have hbad : entBad (⟨f, wb⟩ : REntry) = false := bad_in hf
      have hhas : entHas (⟨f, wb⟩ : REntry) = true := by
        show (f != -1) = true
        rw [bne_iff_ne]; omega
      have hG : Good (mapD D E q) (mapL D E q ⟨f, wb⟩) := hg.map hq hbad hhas
      have hO := entO_map hg hq ⟨f, wb⟩
      have hU := unmap_map hg hq hbad hhas hfr
      rw [Int.toNat_natCast]
      refine ⟨hg, q, rfl, hq, hf2, hfr, rfl, rfl, hG, ?_, hO⟩
      unfold uR
      have hok : hasOk (mapD D E q) (mapL D E q ⟨f, wb⟩) (q : Int) = true := by
        rw [hasOk_eq (goodB_true hG) (inB_iff.2 (by omega)), bne_iff_ne]
        show (((entO _ _ q).getD noE).f0) ≠ -1
        rw [hO]
        show f ≠ -1
        omega
      rw [if_pos hok, Int.toNat_natCast, hU.1, hU.2]
    · cases h
  · cases h
theorem tr_at {D : List Int} {E : List (List REntry)} (h : Good D E) {q : Nat} (hq : q < 16) (wr : Bool) : trR D E q wr = trE (entO D E q) wr ∧ pageOk D E q = true := by
  have hp : pageOk D E q = true := by unfold pageOk; rw [goodB_true h, inB_iff.2 (by omega)]; rfl
  exact ⟨by unfold trR; rw [if_pos hp, Int.toNat_natCast], hp⟩
/-- another page is translated as before -/
theorem tr_ne {D : List Int} {E : List (List REntry)} (h : Good D E) {p q : Nat} (hp : p < 16) (hq : q < 16) (hqp : q ≠ p) (e : REntry) :
    (trE (entO (mapD D E p) (mapL D E p e) q) true).1 = (trE (entO D E q) true).1 ∧
    ((trE (entO (mapD D E p) (mapL D E p e) q) true).2 = (trE (entO D E q) true).2 ∨ ((trE (entO D E q) true).2 = 1 ∧ (trE (entO (mapD D E p) (mapL D E p e) q) true).2 = 2 ∧ q / 4 = p / 4)) := by
  rw [entO_map_ne h hp hq hqp e]
  split
  · rename_i h4
    rw [entO_none h4.2]
    exact ⟨rfl, .inr ⟨rfl, rfl, h4.1⟩⟩
  · exact ⟨rfl, .inl rfl⟩
theorem trE_fin (e : Option REntry) (wr : Bool) : ((trE e wr).1 == -1) = ((trE e wr).2 != 0) := by
  unfold trE
  split
  · rfl
  · rename_i e
    split
    · rfl
    · split
      · rfl
      · rename_i h1 h2
        show (e.f0 == -1) = ((0 : Int) != 0)
        rw [beq_eq_false_iff_ne.2 h1]; rfl
theorem tr_fin {D : List Int} {E : List (List REntry)} {p x y : Int} {wr : Bool} (h : pageOk D E p = true) (ht : trR D E p wr = (x, y)) : ((x == -1) == (y != 0)) = true := by
  unfold trR at ht
  rw [if_pos h] at ht
  have := trE_fin (entO D E p.toNat) wr
  rw [ht] at this
  dsimp only at this
  rw [this]; simp
theorem wanted_no {b : Bool} {A B : Prop} (h : b = false) (hk : B) : if b = true then A else B := by subst h; exact hk
theorem oGood {x : DE} {p f : Int} {wb : Bool} {m : Option DE} (h : mpR x p f wb = m) (hb : m.isSome = true) : goodB (oD m) (oE m) = true := by
  cases m with
  | none => cases hb
  | some y => exact goodB_true (map_told (D := x.1) (E := x.2) h).2.choose_spec.2.2.2.2.2.2.1
theorem trE_frame {f : Int} (h : 0 ≤ f) (wb : Bool) : trE (some ⟨f, wb⟩) false = (f, 0) := by
  show (if f = -1 then (-1, 2) else if (false && !wb) = true then (-1, 3) else (f, 0)) = (f, (0 : Int))
  rw [if_neg (by omega), Bool.false_and, if_neg (by decide)]
theorem trE_write {f : Int} (h : 0 ≤ f) (wb : Bool) : trE (some ⟨f, wb⟩) true = if wb then (f, 0) else (-1, 3) := by
  show (if f = -1 then (-1, 2) else if (true && !wb) = true then (-1, 3) else (f, 0)) = (if wb then (f, (0 : Int)) else (-1, 3))
  rw [if_neg (by omega)]
  cases wb <;> rfl
theorem write_told {D : List Int} {E : List (List REntry)} {p f : Int} {wb : Bool} (h : trR D E p true = if wb then (f, 0) else (-1, 3)) : ∃ x y, trR D E p true = (x, y) ∧ ((y == 3) == wb) = false := by
  cases wb
  · exact ⟨-1, 3, h, by decide⟩
  · exact ⟨f, 0, h, by decide⟩
end Go.Proofs.Ytaaocnfbbajphaa
