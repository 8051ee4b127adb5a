/- Contracts of the table functions that tell of several pages, with their results as letters; how many pages lie on each frame, what a run of pages leaves. Tables not too large. -/
import Derived.Test.YtaaocnfbbajphaaPt4
import Derived.Test.YtaaocnfbbajphaaTm
import Derived.Test.YtaaocnfbbajphaaTd4
namespace Go.Proofs.Ytaaocnfbbajphaa
open Go.RowKit
set_option linter.unusedVariables false
set_option linter.unusedSimpArgs false

section
variable {T : Tab} {w : World} {p f c x y g : Int} {wb a b : Bool} {m : Option DE} {xs : List Int} {n : Nat}
theorem i_MappedPages_m (h : Td w T) (hL : mpL T.D T.E = xs) (hn : xs.length = n) (hb : goodB T.D T.E = b) :
    Calls Try.prog 19 #[tabV T] w fun e w' => ∃ A c, e = .returned (.tuple #[.slice A n c, .bool b]) ∧ Hid (Rd w' 1 A n (I xs)) ∧ Below w.heap.size w w' := by
  subst hL hb hn
  exact (i_MappedPages_any T w h.rd h.bd h.cap _ _ rfl rfl).mono fun e w' ⟨A, c, e1, ho, hb⟩ => ⟨A, c, e1, ho.rd, hb⟩
theorem s_MappedPages_m (h : Td w T) (hL : mpL T.D T.E = xs) (hn : xs.length = n) (hb : goodB T.D T.E = b) :
    Calls Try.prog 20 #[tabV T] w fun e w' => ∃ A c, e = .returned (.tuple #[.slice A n c, .bool b]) ∧ Hid (Rd w' 1 A n (I xs)) ∧ Below w.heap.size w w' := by
  subst hL hb hn
  exact (s_MappedPages_any T w h.rd h.bd h.cap _ _ rfl rfl).mono fun e w' ⟨A, c, e1, ho, hb⟩ => ⟨A, c, e1, ho.rd, hb⟩
theorem i_PagesOn_m (h : Td w T) (hL : onL T.D T.E x = xs) (hn : xs.length = n) (hb : onOk T.D T.E x = b) :
    Calls Try.prog 22 #[tabV T, .int .i64 x] w fun e w' => ∃ A c, e = .returned (.tuple #[.slice A n c, .bool b]) ∧ Hid (Rd w' 1 A n (I xs)) ∧ Below w.heap.size w w' := by
  subst hL hb hn
  exact (i_PagesOn_any T x w h.rd h.bd h.cap _ _ rfl rfl).mono fun e w' ⟨A, c, e1, ho, hb⟩ => ⟨A, c, e1, ho.rd, hb⟩
theorem s_PagesOn_m (h : Td w T) (hL : onL T.D T.E x = xs) (hn : xs.length = n) (hb : onOk T.D T.E x = b) :
    Calls Try.prog 33 #[tabV T, .int .i64 x] w fun e w' => ∃ A c, e = .returned (.tuple #[.slice A n c, .bool b]) ∧ Hid (Rd w' 1 A n (I xs)) ∧ Below w.heap.size w w' := by
  subst hL hb hn
  exact (s_PagesOn_any T x w h.rd h.bd h.cap _ _ rfl rfl).mono fun e w' ⟨A, c, e1, ho, hb⟩ => ⟨A, c, e1, ho.rd, hb⟩
theorem i_IsWithin_m (A : Option Addr) (k : Nat) (h : Td w T) (hr : Rd w 1 A n (I xs)) (hn : n ≤ 20) (ha : wiB T.D T.E xs g = a) (hb : wiOk T.D T.E xs g = b) :
    Calls Try.prog 24 #[tabV T, .slice A n k, .int .i64 g] w fun e w' => e = .returned (.tuple #[.bool a, .bool b]) ∧ Below w.heap.size w w' := by
  subst ha hb
  exact i_IsWithin_any T A n k xs g w h.rd h.bd h.cap _ _ rfl rfl hr (by omega)
theorem s_IsWithin_m (A : Option Addr) (k : Nat) (h : Td w T) (hr : Rd w 1 A n (I xs)) (hn : n ≤ 20) (ha : wiB T.D T.E xs g = a) (hb : wiOk T.D T.E xs g = b) :
    Calls Try.prog 25 #[tabV T, .slice A n k, .int .i64 g] w fun e w' => e = .returned (.tuple #[.bool a, .bool b]) ∧ Below w.heap.size w w' := by
  subst ha hb
  exact s_IsWithin_any T A n k xs g w h.rd h.bd h.cap _ _ rfl rfl hr (by omega)
theorem i_MapRun_m (h : Td w T) (h1 : (Lit.int .i64 p).wf = true) (h2 : (Lit.int .i64 f).wf = true) (hm : runR (T.D, T.E) p f c wb = m) (hb : m.isSome = b) :
    Calls Try.prog 27 #[tabV T, .int .i64 p, .int .i64 f, .int .i64 c, .bool wb] w fun e w' => ∃ T' : Tab, e = .returned (.tuple #[tabV T', .bool b]) ∧ Hid (T'.D = oD m) ∧ Hid (T'.E = oE m) ∧ Td w' T' ∧ Below w.heap.size w w' := by
  subst hm hb
  exact (i_MapRun_any T p f c wb w h.rd h.bd h.cap _ _ rfl rfl h1 h2).mono fun e w' ⟨T', e1, hD, hE, B, S⟩ => ⟨T', e1, hD, hE, td_new B S, S.bel⟩
theorem s_MapRun_m (h : Td w T) (h1 : (Lit.int .i64 p).wf = true) (h2 : (Lit.int .i64 f).wf = true) (hm : runR (T.D, T.E) p f c wb = m) (hb : m.isSome = b) :
    Calls Try.prog 28 #[tabV T, .int .i64 p, .int .i64 f, .int .i64 c, .bool wb] w fun e w' => ∃ T' : Tab, e = .returned (.tuple #[tabV T', .bool b]) ∧ Hid (T'.D = oD m) ∧ Hid (T'.E = oE m) ∧ Td w' T' ∧ Below w.heap.size w w' := by
  subst hm hb
  exact (s_MapRun_any T p f c wb w h.rd h.bd h.cap _ _ rfl rfl h1 h2).mono fun e w' ⟨T', e1, hD, hE, B, S⟩ => ⟨T', e1, hD, hE, td_new B S, S.bel⟩
theorem i_ProtectPage_m (h : Td w T) (hb : hasOk T.D T.E p = b) :
    Calls Try.prog 30 #[tabV T, .int .i64 p, .bool wb] w fun e w' => ∃ T' : Tab, e = .returned (.tuple #[tabV T', .bool b]) ∧ Hid (T'.D = prD T.D T.E p) ∧ Hid (T'.E = prE T.D T.E p wb) ∧ Td w' T' ∧ Below w.heap.size w w' := by
  subst hb
  exact (i_ProtectPage_any T p wb w h.rd h.bd h.cap _ _ rfl rfl).mono fun e w' ⟨T', e1, hD, hE, B, S⟩ => ⟨T', e1, hD, hE, td_new B S, S.bel⟩
theorem s_ProtectPage_m (h : Td w T) (hb : hasOk T.D T.E p = b) :
    Calls Try.prog 31 #[tabV T, .int .i64 p, .bool wb] w fun e w' => ∃ T' : Tab, e = .returned (.tuple #[tabV T', .bool b]) ∧ Hid (T'.D = prD T.D T.E p) ∧ Hid (T'.E = prE T.D T.E p wb) ∧ Td w' T' ∧ Below w.heap.size w w' := by
  subst hb
  exact (s_ProtectPage_any T p wb w h.rd h.bd h.cap _ _ rfl rfl).mono fun e w' ⟨T', e1, hD, hE, B, S⟩ => ⟨T', e1, hD, hE, td_new B S, S.bel⟩
theorem i_TableOf_m (A1 : Option Addr) (n1 c1 : Nat) (ps : List Int) (A2 : Option Addr) (n2 c2 : Nat) (fs : List Int) (hr1 : Rd w 1 A1 n1 (I ps)) (hn1 : n1 ≤ 20) (hr2 : Rd w 1 A2 n2 (I fs)) (hn2 : n2 ≤ 20) (hm : tofR ps fs = m) (hb : m.isSome = b) :
    Calls Try.prog 35 #[.slice A1 n1 c1, .slice A2 n2 c2] w fun e w' => ∃ T' : Tab, e = .returned (.tuple #[tabV T', .bool b]) ∧ Hid (T'.D = oD m) ∧ Hid (T'.E = oE m) ∧ Td w' T' ∧ Below w.heap.size w w' := by
  subst hm hb
  exact (i_TableOf_any A1 n1 c1 ps A2 n2 c2 fs w hr1 (by omega) hr2 (by omega)).mono fun e w' ⟨T', e1, hD, hE, B, S⟩ => ⟨T', e1, hD, hE, td_new B S, S.bel⟩
theorem s_TableOf_m (A1 : Option Addr) (n1 c1 : Nat) (ps : List Int) (A2 : Option Addr) (n2 c2 : Nat) (fs : List Int) (hr1 : Rd w 1 A1 n1 (I ps)) (hn1 : n1 ≤ 20) (hr2 : Rd w 1 A2 n2 (I fs)) (hn2 : n2 ≤ 20) (hm : tofR ps fs = m) (hb : m.isSome = b) :
    Calls Try.prog 36 #[.slice A1 n1 c1, .slice A2 n2 c2] w fun e w' => ∃ T' : Tab, e = .returned (.tuple #[tabV T', .bool b]) ∧ Hid (T'.D = oD m) ∧ Hid (T'.E = oE m) ∧ Td w' T' ∧ Below w.heap.size w w' := by
  subst hm hb
  exact (s_TableOf_any A1 n1 c1 ps A2 n2 c2 fs w hr1 (by omega) hr2 (by omega)).mono fun e w' ⟨T', e1, hD, hE, B, S⟩ => ⟨T', e1, hD, hE, td_new B S, S.bel⟩
end

theorem filter_two {α : Type} (a b c : α → Bool) : ∀ l : List α, (∀ x ∈ l, a x = (b x || c x) ∧ (b x && c x) = false) → (l.filter a).length = (l.filter b).length + (l.filter c).length
  | [], _ => rfl
  | x :: l, h => by
    have ih := filter_two a b c l fun y hy => h y (List.mem_cons_of_mem _ hy)
    obtain ⟨h1, h2⟩ := h x (List.mem_cons_self ..)
    simp only [List.filter_cons, h1]
    cases hb : b x <;> cases hc : c x <;> simp [hb, hc] at h2 ⊢ <;> omega
/-- how many pages lie on the frames below k -/
def cntF (D : List Int) (E : List (List REntry)) (k : Nat) : Nat := ((List.range 16).filter (fun p => frO D E p != -1 && decide (frO D E p < (k : Int)))).length
theorem cntF_zero {D : List Int} {E : List (List REntry)} (h : Good D E) : cntF D E 0 = 0 := by
  unfold cntF
  rw [List.length_eq_zero_iff, List.filter_eq_nil_iff]
  intro p hp
  have := h.frame (List.mem_range.1 hp)
  simp only [Bool.and_eq_true, bne_iff_ne, decide_eq_true_eq]
  omega
theorem cntF_succ {D : List Int} {E : List (List REntry)} (h : Good D E) {k : Nat} (hk : k < 16) : cntF D E (k + 1) = cntF D E k + (onL D E k).length := by
  have h1 : onL D E k = pagesL (qIs k) D E 16 := by
    unfold onL onOk
    rw [goodB_true h, inB_iff.2 (by omega)]
    rfl
  rw [h1]
  unfold cntF pagesL
  rw [List.length_map]
  refine filter_two _ _ _ _ fun p hp => ?_
  have := h.frame (List.mem_range.1 hp)
  unfold pgB qIs
  by_cases e1 : frO D E p = -1
  · simp [e1]
  · by_cases e2 : frO D E p = (k : Int)
    · have e3 : frO D E p < ((k + 1 : Nat) : Int) := by omega
      have e4 : ¬ frO D E p < (k : Int) := by omega
      have e5 : (frO D E p != -1) = true := by simp [e1]
      rw [e5]
      simp only [decide_eq_true e3, decide_eq_false e4, beq_iff_eq.2 e2]
      decide
    · have e3 : decide (frO D E p < ((k + 1 : Nat) : Int)) = decide (frO D E p < (k : Int)) := by
        rw [decide_eq_decide]; omega
      rw [e3, beq_eq_false_iff_ne.2 e2]
      simp
theorem cntF_le (D : List Int) (E : List (List REntry)) (k : Nat) : cntF D E k ≤ 16 := by
  unfold cntF
  exact Nat.le_trans (List.length_filter_le _ _) (by simp)
theorem cntF_all {D : List Int} {E : List (List REntry)} (h : Good D E) : cntF D E 16 = (mpL D E).length := by
  have h1 : mpL D E = pagesL qAll D E 16 := by unfold mpL; rw [if_pos (goodB_true h)]
  rw [h1]
  unfold cntF pagesL
  rw [List.length_map]
  congr 1
  refine List.filter_congr fun p hp => ?_
  have := h.frame (List.mem_range.1 hp)
  have e1 : decide (frO D E p < ((16 : Nat) : Int)) = true := by rw [decide_eq_true_eq]; omega
  rw [e1]; rfl
theorem onOk_good {D : List Int} {E : List (List REntry)} (h : Good D E) {k : Nat} (hk : k < 16) : onOk D E k = true := by
  unfold onOk; rw [goodB_true h, inB_iff.2 (by omega)]; rfl
/-- how many pages have a frame -/
def mapN (D : List Int) (E : List (List REntry)) : Nat := ((List.range 16).filter (fun p => frO D E p != -1)).length
theorem mpL_N {D : List Int} {E : List (List REntry)} (h : Good D E) : (mpL D E).length = mapN D E := by
  have h1 : mpL D E = pagesL qAll D E 16 := by unfold mpL; rw [if_pos (goodB_true h)]
  rw [h1]
  unfold mapN pagesL
  rw [List.length_map]
  congr 1
  refine List.filter_congr fun p hp => ?_
  unfold pgB qAll
  rw [Bool.and_true]
theorem frO_ne {D : List Int} {E : List (List REntry)} (h : Good D E) {p q : Nat} (hp : p < 16) (hq : q < 16) (hqp : q ≠ p) (e : REntry) : frO (mapD D E p) (mapL D E p e) q = frO D E q := by
  unfold frO getE
  rw [entO_map_ne h hp hq hqp e]
  split
  · rename_i h4
    rw [entO_none h4.2]; rfl
  · rfl
theorem one_range : ∀ q, q < 16 → ((List.range 16).filter (fun p => p == q)).length = 1 := by decide
/-- one page more has a frame -/
theorem mapN_map {D : List Int} {E : List (List REntry)} {p f : Int} {wb : Bool} {y : DE} (h : mpR (D, E) p f wb = some y) : mapN y.1 y.2 = mapN D E + 1 := by
  obtain ⟨hG, q, rfl, hq, hf, hfr, h1, h2, hGy, _, hO⟩ := map_told h
  unfold mapN
  rw [← one_range q hq]
  refine filter_two _ _ _ _ fun x hx => ?_
  by_cases hxq : x = q
  · subst hxq
    have e1 : frO y.1 y.2 x = f := by unfold frO getE; rw [hO]; rfl
    have e2 : (f != -1) = true := by rw [bne_iff_ne]; omega
    rw [e1, hfr, e2]
    simp
  · have e1 : frO y.1 y.2 x = frO D E x := by rw [h1, h2]; exact frO_ne hG hq (List.mem_range.1 hx) hxq _
    rw [e1, beq_eq_false_iff_ne.2 hxq]
    simp
theorem mpR_step {x : DE} {p f : Int} {wb : Bool} (hg : Good x.1 x.2) : mpR (x.1, x.2) p f wb = stepM x p f wb := by
  unfold mpR; rw [if_pos (goodB_true hg)]
theorem mapN_run {x : DE} {p f : Int} {wb : Bool} (hg : Good x.1 x.2) : ∀ (k : Nat) (y : DE), runTo x p f wb k = some y → mapN y.1 y.2 = mapN x.1 x.2 + k
  | 0, y, h => by obtain rfl := Option.some.inj h; rfl
  | k + 1, y, h => by
    rw [runTo] at h
    cases hk : runTo x p f wb k with
    | none => rw [hk] at h; cases h
    | some z =>
      rw [hk] at h
      have hgz := runTo_good hg k z hk
      have hs : stepM z (p + k) (f + k) wb = some y := h
      rw [← mpR_step hgz] at hs
      rw [mapN_map hs, mapN_run hg k z hk]; omega
/-- what a run tells -/
theorem run_told {D : List Int} {E : List (List REntry)} {p f c : Int} {wb : Bool} {y : DE} (h : runR (D, E) p f c wb = some y) :
    Good D E ∧ ∃ cN : Nat, c = (cN : Int) ∧ 1 ≤ cN ∧ cN ≤ 16 ∧ goodB y.1 y.2 = true ∧ (mpL y.1 y.2).length = (mpL D E).length + cN ∧ trR y.1 y.2 (p + c - 1) false = (f + c - 1, 0) ∧ pageOk y.1 y.2 (p + c - 1) = true := by
  unfold runR at h
  split at h
  · rename_i hg
    rw [Bool.and_eq_true] at hg
    have hG := goodB_iff.1 hg.1
    have hc := inB_iff.1 hg.2
    obtain ⟨cN, rfl⟩ := Int.eq_ofNat_of_zero_le (show 0 ≤ c by omega)
    rw [Int.toNat_natCast] at h
    have hGy := runTo_good hG cN y h
    have hN := mapN_run hG cN y h
    refine ⟨hG, cN, rfl, by omega, by omega, goodB_true hGy, by rw [mpL_N hGy, mpL_N hG, hN], ?_⟩
    obtain ⟨k, rfl⟩ : ∃ k, cN = k + 1 := ⟨cN - 1, by omega⟩
    rw [runTo] at h
    cases hk : runTo (D, E) p f wb k with
    | none => rw [hk] at h; cases h
    | some z =>
      rw [hk] at h
      have hgz := runTo_good hG k z hk
      have hs : stepM z (p + k) (f + k) wb = some y := h
      rw [← mpR_step hgz] at hs
      obtain ⟨_, q, hq, hq16, hf, _, _, _, _, _, hO⟩ := map_told hs
      have e1 : p + ((k + 1 : Nat) : Int) - 1 = (q : Int) := by omega
      have e2 : f + ((k + 1 : Nat) : Int) - 1 = f + k := by omega
      rw [e1, e2]
      refine ⟨?_, (tr_at hGy hq16 false).2⟩
      rw [(tr_at hGy hq16 false).1, hO]
      exact trE_frame hf.1 wb
  · cases h
/-- what lies on a page of a guest's -/
theorem within_told {D : List Int} {E : List (List REntry)} {xs : List Int} {g : Int} (h : wiB D E xs g = true) :
    Good D E ∧ ∀ p : Nat, (p : Int) ∈ mpL D E → pageOk D E p = true ∧ ∃ fN : Nat, trR D E p false = ((fN : Int), 0) ∧ fN < xs.length ∧ xs[fN]? = some g := by
  unfold wiB at h
  rw [Bool.and_eq_true] at h
  obtain ⟨h1, h2⟩ := h
  unfold wiOk at h1
  rw [Bool.and_eq_true] at h1
  have hG := goodB_iff.1 h1.1
  refine ⟨hG, fun p hp => ?_⟩
  have e1 : mpL D E = pagesL qAll D E 16 := by unfold mpL; rw [if_pos h1.1]
  rw [e1] at hp
  obtain ⟨p', hpp, hp16, hfr⟩ := pages_mem hp
  obtain rfl : p = p' := by omega
  have hq := pages_out.1 h2 p hp16 hfr
  have hb := hG.frame hp16
  obtain ⟨fN, hfN⟩ := Int.eq_ofNat_of_zero_le (show 0 ≤ frO D E p by omega)
  rw [hfN] at hq
  unfold qOut at hq
  rw [Bool.or_eq_false_iff, decide_eq_false_iff_not, Int.toNat_natCast, bne_eq_false_iff_eq] at hq
  have hlt : fN < xs.length := by omega
  refine ⟨(tr_at hG hp16 false).2, fN, ?_, hlt, ?_⟩
  · rw [(tr_at hG hp16 false).1]
    unfold frO getE at hfN hfr
    cases ho : entO D E p with
    | none => rw [ho] at hfr; exact absurd rfl hfr
    | some e =>
      rw [ho] at hfN
      obtain ⟨f0, f1⟩ := e
      have : f0 = (fN : Int) := hfN
      subst this
      exact trE_frame (by omega) f1
  · rw [List.getElem?_eq_getElem hlt] at hq ⊢
    exact congrArg some hq.2
theorem mpL_nat {D : List Int} {E : List (List REntry)} (h : Good D E) {x : Int} (hx : x ∈ mpL D E) : ∃ p : Nat, x = (p : Int) := by
  unfold mpL at hx
  rw [if_pos (goodB_true h)] at hx
  obtain ⟨p, rfl, _⟩ := pages_mem hx
  exact ⟨p, rfl⟩
theorem td_first {W0 w : World} {T : Tab} {Q : List Thing} (hm : Sm T.D T.E) (S : Sep W0 w (T.things ++ Q)) : Td w T := Td.of (P := []) (Q := Q) hm (by simpa using S)
theorem rd_last {W0 w : World} {P : List Thing} {A : Option Addr} {n c : Nat} {xs : List Int} (S : Sep W0 w (P ++ [ti A n c xs])) : Rd w 1 A n (I xs) :=
  (S.own _ (ti A n c xs) (by rw [List.getElem?_append_right (Nat.le_refl _), Nat.sub_self]; rfl)).rd
end Go.Proofs.Ytaaocnfbbajphaa
