/- Plain words on translation tables: what a good table is, the entry of a page, mapping and unmapping. Nothing of the program is named. No conditions. -/
import Derived.Test.YtaaocnfbbajphaaMem
namespace Go.Proofs.Ytaaocnfbbajphaa
set_option linter.unusedVariables false
set_option linter.unusedSimpArgs false

/-- an entry: its frame, and whether it may be written -/
structure REntry where
  f0 : Int
  f1 : Bool
abbrev noE : REntry := ⟨-1, false⟩
def entBad (e : REntry) : Bool := decide (e.f0 < -1) || decide (15 < e.f0) || (e.f0 == -1 && e.f1)
def entHas (e : REntry) : Bool := e.f0 != -1
def leafB (es : List REntry) : Bool := decide (es.length = 4) && es.any entHas && !es.any entBad
def usedL (D : List Int) : List Int := D.filter (fun d => d != -1)
/-- the directories up to k are good -/
def DirsTo (D : List Int) (n k : Nat) : Prop := ∀ j d, j < k → D[j]? = some d → d ≠ -1 → 0 ≤ d ∧ d < (n : Int) ∧ d ∉ D.take j
structure Good (D : List Int) (L : List (List REntry)) : Prop where
  len : D.length = 4
  leaf : ∀ es ∈ L, leafB es = true
  dirs : DirsTo D L.length 4
  used : (usedL D).length = L.length
open Classical in
noncomputable def goodB (D : List Int) (L : List (List REntry)) : Bool := decide (Good D L)
theorem goodB_iff {D : List Int} {L : List (List REntry)} : goodB D L = true ↔ Good D L := by simp [goodB]
theorem goodB_true {D : List Int} {L : List (List REntry)} (h : Good D L) : goodB D L = true := goodB_iff.2 h
theorem goodB_false {D : List Int} {L : List (List REntry)} (h : ¬ Good D L) : goodB D L = false := by simp [goodB, h]

theorem leafB_len {es : List REntry} (h : leafB es = true) : es.length = 4 := by simp [leafB] at h; exact h.1.1
theorem leafB_ok {es : List REntry} (h : leafB es = true) : ∀ e ∈ es, entBad e = false := by
  simp only [leafB, Bool.and_eq_true, Bool.not_eq_true', List.any_eq_false] at h
  intro e he
  have := h.2 e he
  simpa using this
theorem leafB_some {es : List REntry} (h : leafB es = true) : es.any entHas = true := by
  simp only [leafB, Bool.and_eq_true] at h; exact h.1.2
theorem leafB_mk {es : List REntry} (h1 : es.length = 4) (h2 : es.any entHas = true) (h3 : ∀ e ∈ es, entBad e = false) : leafB es = true := by
  simp only [leafB, Bool.and_eq_true, Bool.not_eq_true', List.any_eq_false]
  exact ⟨⟨by simp [h1], h2⟩, fun e he => by simp [h3 e he]⟩
theorem ent_free {e : REntry} (h : entBad e = false) (h2 : e.f0 = -1) : e = noE := by
  obtain ⟨a, b⟩ := e
  simp only at h2
  subst h2
  cases b
  · rfl
  · simp [entBad] at h
theorem usedL_len_le (D : List Int) : (usedL D).length ≤ D.length := List.length_filter_le _ _
theorem usedL_append (a b : List Int) : usedL (a ++ b) = usedL a ++ usedL b := by simp [usedL]
theorem usedL_mem {D : List Int} {d : Int} (h : d ≠ -1) : d ∈ usedL D ↔ d ∈ D := by simp [usedL, h]
theorem Good.len4 {D : List Int} {L : List (List REntry)} (h : Good D L) : L.length ≤ 4 := by
  have := usedL_len_le D; have := h.used; have := h.len; omega

/-- the directory of a page -/
def dirOf (D : List Int) (p : Nat) : Int := D[p / 4]?.getD (-1)
def entO (D : List Int) (L : List (List REntry)) (p : Nat) : Option REntry :=
  if dirOf D p = -1 then none else (L[(dirOf D p).toNat]?).bind fun es => es[p % 4]?
def getE (D : List Int) (L : List (List REntry)) (p : Nat) : REntry := (entO D L p).getD noE
def frO (D : List Int) (L : List (List REntry)) (p : Nat) : Int := (getE D L p).f0

theorem Good.dir {D : List Int} {L : List (List REntry)} (h : Good D L) {p : Nat} (hp : p < 16) : D[p / 4]? = some (dirOf D p) := by
  have hl := h.len
  have : p / 4 < D.length := by omega
  unfold dirOf
  rw [List.getElem?_eq_getElem this]; rfl
theorem Good.leafAt {D : List Int} {L : List (List REntry)} (h : Good D L) {p : Nat} (hp : p < 16) (hd : dirOf D p ≠ -1) :
    ∃ (j : Nat) (es : List REntry) (e : REntry), dirOf D p = (j : Int) ∧ L[j]? = some es ∧ leafB es = true ∧ es[p % 4]? = some e ∧ entO D L p = some e ∧ entBad e = false := by
  obtain ⟨h0, h1, _⟩ := h.dirs (p / 4) _ (by omega) (h.dir hp) hd
  obtain ⟨j, hj⟩ := Int.eq_ofNat_of_zero_le h0
  have hjl : j < L.length := by omega
  have hes : L[j]? = some L[j] := List.getElem?_eq_getElem hjl
  have hlf := h.leaf _ (List.getElem_mem hjl)
  have h4 := leafB_len hlf
  have hp4 : p % 4 < L[j].length := by omega
  have he : L[j][p % 4]? = some (L[j][p % 4]) := List.getElem?_eq_getElem hp4
  refine ⟨j, L[j], _, hj, hes, hlf, he, ?_, leafB_ok hlf _ (List.getElem_mem hp4)⟩
  unfold entO
  rw [if_neg hd, hj, Int.toNat_natCast, hes]
  exact he
theorem entO_none {D : List Int} {L : List (List REntry)} {p : Nat} (hd : dirOf D p = -1) : entO D L p = none := by simp [entO, hd]
theorem Good.frame {D : List Int} {L : List (List REntry)} (h : Good D L) {p : Nat} (hp : p < 16) : -1 ≤ frO D L p ∧ frO D L p ≤ 15 := by
  by_cases hd : dirOf D p = -1
  · simp [frO, getE, entO_none hd]
  · obtain ⟨j, es, e, _, _, _, _, he, hb⟩ := h.leafAt hp hd
    simp only [frO, getE, he, Option.getD_some]
    simp [entBad] at hb
    omega

/-- the directories, and the leaves, when a page has another entry -/
def mapD (D : List Int) (L : List (List REntry)) (p : Nat) : List Int := if dirOf D p = -1 then D.set (p / 4) (L.length : Int) else D
def mapL (D : List Int) (L : List (List REntry)) (p : Nat) (e : REntry) : List (List REntry) :=
  if dirOf D p = -1 then L ++ [(List.replicate 4 noE).set (p % 4) e] else L.set (dirOf D p).toNat (((L[(dirOf D p).toNat]?).getD []).set (p % 4) e)
/-- without the leaf k -/
def cutD (D : List Int) (k : Int) : List Int := D.map fun d => if d = k then -1 else if k < d then d - 1 else d
def unmD (D : List Int) (L : List (List REntry)) (p : Nat) : List Int :=
  if leafB (((mapL D L p noE)[(dirOf D p).toNat]?).getD []) then mapD D L p else cutD (mapD D L p) (dirOf D p)
def unmL (D : List Int) (L : List (List REntry)) (p : Nat) : List (List REntry) :=
  if leafB (((mapL D L p noE)[(dirOf D p).toNat]?).getD []) then mapL D L p noE else (mapL D L p noE).eraseIdx (dirOf D p).toNat

theorem take_set_of_le {α : Type} (l : List α) (i j : Nat) (x : α) (h : j ≤ i) : (l.set i x).take j = l.take j := by
  rw [List.take_set, List.set_eq_of_length_le (by rw [List.length_take]; omega)]
theorem usedL_set_new : ∀ (D : List Int) (i : Nat) (x : Int), D[i]? = some (-1) → x ≠ -1 → (usedL (D.set i x)).length = (usedL D).length + 1
  | [], i, x, h, _ => by simp at h
  | d :: D, 0, x, h, hx => by
    simp at h; subst h
    simp [usedL, hx]
  | d :: D, i + 1, x, h, hx => by
    have := usedL_set_new D i x (by simpa using h) hx
    simp only [List.set_cons_succ, usedL, List.filter_cons] at this ⊢
    split <;> simp_all
theorem any_set_has {es : List REntry} {i : Nat} {e : REntry} (hi : i < es.length) (h : entHas e = true) : (es.set i e).any entHas = true :=
  List.any_eq_true.2 ⟨e, List.mem_of_getElem? (List.getElem?_set_self hi), h⟩
theorem bad_set {es : List REntry} {i : Nat} {e : REntry} (h : ∀ x ∈ es, entBad x = false) (he : entBad e = false) : ∀ x ∈ es.set i e, entBad x = false := by
  intro x hx
  rcases List.mem_or_eq_of_mem_set hx with h1 | rfl
  · exact h x h1
  · exact he

theorem Good.map {D : List Int} {L : List (List REntry)} (h : Good D L) {p : Nat} (hp : p < 16) {e : REntry} (hb : entBad e = false) (hh : entHas e = true) : Good (mapD D L p) (mapL D L p e) := by
  have hl := h.len
  unfold mapD mapL
  by_cases hd : dirOf D p = -1
  · rw [if_pos hd, if_pos hd]
    have hD := h.dir hp
    rw [hd] at hD
    refine ⟨by simpa using hl, fun es hes => ?_, fun j d hj hjd hne => ?_, ?_⟩
    · rcases List.mem_append.1 hes with h1 | h1
      · exact h.leaf es h1
      · rw [List.mem_singleton] at h1
        subst h1
        refine leafB_mk (by simp) (any_set_has (by simp; omega) hh) (bad_set (fun x hx => ?_) hb)
        rw [(List.mem_replicate.1 hx).2]; rfl
    · rw [List.length_append, List.length_singleton]
      by_cases hjp : p / 4 = j
      · subst hjp
        rw [List.getElem?_set_self (by omega)] at hjd
        obtain rfl := Option.some.inj hjd
        refine ⟨by omega, by omega, fun hm => ?_⟩
        rw [take_set_of_le _ _ _ _ (Nat.le_refl _)] at hm
        obtain ⟨i, hi⟩ := List.getElem?_of_mem hm
        have hi2 : i < p / 4 := by
          have := (List.getElem?_eq_some_iff.1 hi).1
          rw [List.length_take] at this; omega
        rw [List.getElem?_take_of_lt hi2] at hi
        have := h.dirs i _ (by omega) hi (by omega)
        omega
      · rw [List.getElem?_set_ne hjp] at hjd
        obtain ⟨h0, h1, h2⟩ := h.dirs j d hj hjd hne
        refine ⟨h0, by omega, fun hm => ?_⟩
        obtain ⟨i, hi⟩ := List.getElem?_of_mem hm
        have hi2 : i < j := by
          have := (List.getElem?_eq_some_iff.1 hi).1
          rw [List.length_take] at this; omega
        rw [List.getElem?_take_of_lt hi2] at hi
        by_cases hip : p / 4 = i
        · subst hip
          rw [List.getElem?_set_self (by omega)] at hi
          have := Option.some.inj hi
          omega
        · rw [List.getElem?_set_ne hip] at hi
          exact h2 (List.mem_of_getElem? (by rw [List.getElem?_take_of_lt hi2]; exact hi))
    · rw [usedL_set_new _ _ _ hD (by omega), h.used]; simp
  · rw [if_neg hd, if_neg hd]
    obtain ⟨j, es, e0, hj, hes, hlf, _, _, _⟩ := h.leafAt hp hd
    rw [hj, Int.toNat_natCast, hes]
    refine ⟨hl, fun es' hes' => ?_, ?_, by rw [List.length_set]; exact h.used⟩
    · rcases List.mem_or_eq_of_mem_set hes' with h1 | rfl
      · exact h.leaf _ h1
      · have h4 := leafB_len hlf
        exact leafB_mk (by simpa using h4) (any_set_has (by simp [h4]; omega) hh) (bad_set (leafB_ok hlf) hb)
    · rw [List.length_set]; exact h.dirs

theorem cutD_len (D : List Int) (k : Int) : (cutD D k).length = D.length := by simp [cutD]
theorem cutD_new {D : List Int} {n : Nat} (h : ∀ d ∈ D, d < (n : Int)) : cutD D (n : Int) = D := by
  unfold cutD
  conv => rhs; rw [← List.map_id D]
  refine List.map_congr_left fun d hd => ?_
  have := h d hd
  rw [if_neg (by omega), if_neg (by omega)]; rfl
theorem eraseIdx_last {α : Type} (l : List α) (x : α) : (l ++ [x]).eraseIdx l.length = l := by
  rw [List.eraseIdx_append_of_length_le (Nat.le_refl _), Nat.sub_self]; simp
theorem Good.lt {D : List Int} {L : List (List REntry)} (h : Good D L) : ∀ d ∈ D, d < (L.length : Int) := by
  intro d hd
  obtain ⟨i, hi⟩ := List.getElem?_of_mem hd
  have hi4 : i < 4 := by have := (List.getElem?_eq_some_iff.1 hi).1; have := h.len; omega
  by_cases hm : d = -1
  · omega
  · exact (h.dirs i d hi4 hi hm).2.1
theorem set_self_eq {α : Type} {l : List α} {i : Nat} {x : α} (h : l[i]? = some x) : l.set i x = l := by
  apply List.ext_getElem?
  intro j
  rw [List.getElem?_set]
  by_cases hij : i = j
  · subst hij
    rw [if_pos rfl, if_pos (List.getElem?_eq_some_iff.1 h).1, h]
  · simp [hij]

theorem dirOf_map {D : List Int} {L : List (List REntry)} (h : Good D L) {p : Nat} (hp : p < 16) : dirOf (mapD D L p) p = if dirOf D p = -1 then (L.length : Int) else dirOf D p := by
  have hl := h.len
  unfold mapD
  split
  · unfold dirOf; rw [List.getElem?_set_self (by omega)]; rfl
  · rfl
theorem dirOf_map_ne {D : List Int} {L : List (List REntry)} {p q : Nat} (hq : p / 4 ≠ q / 4) : dirOf (mapD D L p) q = dirOf D q := by
  unfold mapD
  split
  · unfold dirOf; rw [List.getElem?_set_ne hq]
  · rfl
theorem dirOf_same {D : List Int} {p q : Nat} (h : p / 4 = q / 4) : dirOf D p = dirOf D q := by unfold dirOf; rw [h]

/-- the entry of a page behind the mapping of another one -/
theorem entO_map {D : List Int} {L : List (List REntry)} (h : Good D L) {p : Nat} (hp : p < 16) (e : REntry) : entO (mapD D L p) (mapL D L p e) p = some e := by
  have hl := h.len
  unfold entO
  rw [dirOf_map h hp]
  unfold mapL
  by_cases hd : dirOf D p = -1
  · rw [if_pos hd, if_pos hd, if_neg (by omega), Int.toNat_natCast, List.getElem?_append_right (Nat.le_refl _), Nat.sub_self]
    show ((List.replicate 4 noE).set (p % 4) e)[p % 4]? = some e
    rw [List.getElem?_set_self (by simp; omega)]
  · rw [if_neg hd, if_neg hd, if_neg hd]
    obtain ⟨j, es, e0, hj, hes, hlf, _, _, _⟩ := h.leafAt hp hd
    rw [hj, Int.toNat_natCast, hes, List.getElem?_set_self (List.getElem?_eq_some_iff.1 hes).1]
    show (es.set (p % 4) e)[p % 4]? = some e
    rw [List.getElem?_set_self (by have := leafB_len hlf; omega)]
theorem entO_map_ne {D : List Int} {L : List (List REntry)} (h : Good D L) {p q : Nat} (hp : p < 16) (hq : q < 16) (hpq : q ≠ p) (e : REntry) :
    entO (mapD D L p) (mapL D L p e) q = if q / 4 = p / 4 ∧ dirOf D q = -1 then some noE else entO D L q := by
  have hl := h.len
  by_cases h4 : q / 4 = p / 4
  · have hm : q % 4 ≠ p % 4 := by omega
    have hdq : dirOf D q = dirOf D p := dirOf_same h4
    unfold entO
    rw [dirOf_same h4, dirOf_map h hp, dirOf_same h4]
    unfold mapL
    by_cases hd : dirOf D p = -1
    · rw [if_pos hd, if_pos hd, if_neg (by omega), if_pos ⟨h4, hd⟩, Int.toNat_natCast, List.getElem?_append_right (Nat.le_refl _), Nat.sub_self]
      show ((List.replicate 4 noE).set (p % 4) e)[q % 4]? = some noE
      rw [List.getElem?_set_ne (Ne.symm hm), List.getElem?_replicate, if_pos (by omega)]
    · rw [if_neg hd, if_neg hd, if_neg hd, if_neg (fun x => hd x.2), if_neg hd]
      obtain ⟨j, es, e0, hj, hes, hlf, _, _, _⟩ := h.leafAt hp hd
      rw [hj, Int.toNat_natCast, hes, List.getElem?_set_self (List.getElem?_eq_some_iff.1 hes).1]
      show (es.set (p % 4) e)[q % 4]? = es[q % 4]?
      rw [List.getElem?_set_ne (Ne.symm hm)]
  · rw [if_neg (fun x => h4 x.1)]
    unfold entO
    rw [dirOf_map_ne (fun x => h4 x.symm)]
    by_cases hdq : dirOf D q = -1
    · rw [if_pos hdq, if_pos hdq]
    · rw [if_neg hdq, if_neg hdq]
      obtain ⟨j, es, e0, hj, hes, hlf, _, _, _⟩ := h.leafAt hq hdq
      rw [hj, Int.toNat_natCast]
      unfold mapL
      by_cases hd : dirOf D p = -1
      · rw [if_pos hd, List.getElem?_append_left (List.getElem?_eq_some_iff.1 hes).1]
      · rw [if_neg hd]
        obtain ⟨j', es', e', hj', hes', _, _, _, _⟩ := h.leafAt hp hd
        rw [hj', Int.toNat_natCast, hes']
        have hne : j' ≠ j := by
          intro he
          subst he
          have a := h.dir hp
          have b := h.dir hq
          rw [hj'] at a
          rw [hj] at b
          rcases Nat.lt_or_ge (p / 4) (q / 4) with hlt | hge
          · exact (h.dirs (q / 4) _ (by omega) b (by omega)).2.2 (List.mem_of_getElem? (i := p / 4) (by rw [List.getElem?_take_of_lt hlt]; exact a))
          · have hlt : q / 4 < p / 4 := by omega
            exact (h.dirs (p / 4) _ (by omega) a (by omega)).2.2 (List.mem_of_getElem? (i := q / 4) (by rw [List.getElem?_take_of_lt hlt]; exact b))
        rw [List.getElem?_set_ne hne]

/-- a page that had no frame, mapped and unmapped again -/
theorem unmap_map {D : List Int} {L : List (List REntry)} (h : Good D L) {p : Nat} (hp : p < 16) {e : REntry} (hb : entBad e = false) (hh : entHas e = true) (hf : frO D L p = -1) :
    unmD (mapD D L p) (mapL D L p e) p = D ∧ unmL (mapD D L p) (mapL D L p e) p = L := by
  have hl := h.len
  have hG := h.map hp hb hh
  have hdm := dirOf_map h hp
  by_cases hd : dirOf D p = -1
  · rw [if_pos hd] at hdm
    have hne : dirOf (mapD D L p) p ≠ -1 := by rw [hdm]; omega
    have e1 : mapL (mapD D L p) (mapL D L p e) p noE = L ++ [List.replicate 4 noE] := by
      unfold mapL
      rw [if_pos hd, if_neg hne, hdm, Int.toNat_natCast, List.getElem?_append_right (Nat.le_refl _), Nat.sub_self]
      rw [List.set_append, if_neg (by omega), Nat.sub_self]
      show L ++ [((List.replicate 4 noE).set (p % 4) e).set (p % 4) noE] = _
      rw [List.set_set, set_self_eq (by rw [List.getElem?_replicate, if_pos (by omega)])]
    have e2 : mapD (mapD D L p) (mapL D L p e) p = D.set (p / 4) (L.length : Int) := by
      conv => lhs; unfold mapD
      rw [if_neg (by rw [← mapD]; exact hne), if_pos hd]
    have e3 : ((L ++ [List.replicate 4 noE])[L.length]?).getD [] = List.replicate 4 noE := by
      rw [List.getElem?_append_right (Nat.le_refl _), Nat.sub_self]; rfl
    have hlf : leafB (List.replicate 4 noE) = false := by decide
    unfold unmD unmL
    rw [e1, e2, hdm, Int.toNat_natCast, e3, if_neg (by rw [hlf]; decide), if_neg (by rw [hlf]; decide), eraseIdx_last]
    refine ⟨?_, rfl⟩
    have hc : cutD (D.set (p / 4) (L.length : Int)) (L.length : Int) = (cutD D (L.length : Int)).set (p / 4) (-1) := by
      unfold cutD
      rw [List.map_set, if_pos rfl]
    rw [hc, cutD_new h.lt]
    have := h.dir hp
    rw [hd] at this
    exact set_self_eq this
  · rw [if_neg hd] at hdm
    have hne : dirOf (mapD D L p) p ≠ -1 := by rw [hdm]; exact hd
    obtain ⟨j, es, e0, hj, hes, hlf, he0, hO, hb0⟩ := h.leafAt hp hd
    have hjl := (List.getElem?_eq_some_iff.1 hes).1
    have h00 : e0 = noE := ent_free hb0 (by simpa [frO, getE, hO] using hf)
    subst h00
    have e1 : mapL (mapD D L p) (mapL D L p e) p noE = L := by
      unfold mapL
      rw [if_neg hd, if_neg hne, hdm, hj, Int.toNat_natCast, hes]
      rw [List.getElem?_set_self hjl]
      show (L.set j (es.set (p % 4) e)).set j ((es.set (p % 4) e).set (p % 4) noE) = L
      rw [List.set_set, List.set_set, set_self_eq he0, set_self_eq hes]
    have e2 : mapD (mapD D L p) (mapL D L p e) p = D := by
      conv => lhs; unfold mapD
      rw [if_neg (by rw [← mapD]; exact hne), if_neg hd]
    unfold unmD unmL
    rw [e1, e2, hdm, hj, Int.toNat_natCast, hes]
    show (if leafB es then D else _) = D ∧ (if leafB es then L else _) = L
    rw [if_pos hlf, if_pos hlf]
    exact ⟨rfl, rfl⟩
end Go.Proofs.Ytaaocnfbbajphaa
