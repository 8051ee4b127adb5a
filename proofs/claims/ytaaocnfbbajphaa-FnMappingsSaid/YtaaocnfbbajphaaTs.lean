/- Translation tables in memory: the slices of which one is made, how it is read, several of them in blocks apart. No conditions. -/
import Derived.Test.YtaaocnfbbajphaaStEntry
import Derived.Test.YtaaocnfbbajphaaSe
namespace Go.Proofs.Ytaaocnfbbajphaa
open Go.RowKit
set_option linter.unusedVariables false
set_option linter.unusedSimpArgs false

/-- a leaf: where its entries lie, and which they are -/
structure Leaf where
  A : Option Addr
  c : Nat
  es : List REntry
def Leaf.cell (l : Leaf) : Value := .slice l.A l.es.length l.c
structure Tab where
  Ad : Option Addr
  cd : Nat
  D : List Int
  Al : Option Addr
  cl : Nat
  L : List Leaf
def Tab.E (T : Tab) : List (List REntry) := T.L.map Leaf.es
theorem Tab.E_len (T : Tab) : T.E.length = T.L.length := by simp [Tab.E]
abbrev tabV (T : Tab) : Value := .agg #[.slice T.Ad T.D.length T.cd, .slice T.Al T.L.length T.cl]
abbrev tR (A : Option Addr) (n c : Nat) (ls : List Leaf) : Thing := ⟨71, 1, A, n, c, ls.map Leaf.cell⟩
abbrev tL (l : Leaf) : Thing := tsEntry l.A l.es.length l.c l.es
def Tab.things (T : Tab) : List Thing := ti T.Ad T.D.length T.cd T.D :: tR T.Al T.L.length T.cl T.L :: T.L.map tL
/-- the table without anything -/
abbrev tab0 : Tab := ⟨none, 0, [], none, 0, []⟩

/-- a table that can be read -/
structure RdT (w : World) (T : Tab) : Prop where
  d : Rd w 1 T.Ad T.D.length (I T.D)
  r : Rd w 1 T.Al T.L.length (T.L.map Leaf.cell)
  l : ∀ (j : Nat) (x : Leaf), T.L[j]? = some x → Rd w 2 x.A x.es.length (J cEntry x.es)
theorem RdT.keep {w w' : World} {T : Tab} (h : RdT w T) (hb : Below w.heap.size w w') : RdT w' T := ⟨h.d.keep hb, h.r.keep hb, fun j x hx => (h.l j x hx).keep hb⟩
theorem RdT.nil_ (w : World) : RdT w tab0 := ⟨Rd.nil_ _ _ _, Rd.nil_ _ _ _, fun j x hx => by simp at hx⟩

theorem Rd.cellAt {w : World} {A : Option Addr} {n k : Nat} {xs : List Value} {u : Value} (h : Rd w 1 A n xs) (hu : xs[k]? = some u) :
    ∃ b o, A = some ⟨b, o, none⟩ ∧ b < w.heap.size ∧ w.cell? ⟨b, o + k, none⟩ = some u := by
  have hk := (List.getElem?_eq_some_iff.1 hu).1
  have := h.1
  obtain ⟨b, o, hA, hb, hc⟩ := h.2 (by omega)
  exact ⟨b, o, hA, hb, hc k u hu⟩
theorem RdT.dirAt {w : World} {T : Tab} (h : RdT w T) {k : Nat} {d : Int} (hd : T.D[k]? = some d) : ∃ b o, T.Ad = some ⟨b, o, none⟩ ∧ b < w.heap.size ∧ w.cell? ⟨b, o + k, none⟩ = some (.int .i64 d) :=
  h.d.cellAt (by simp [I, hd])
theorem RdT.rowAt {w : World} {T : Tab} (h : RdT w T) {k : Nat} {l : Leaf} (hl : T.L[k]? = some l) : ∃ b o, T.Al = some ⟨b, o, none⟩ ∧ b < w.heap.size ∧ w.cell? ⟨b, o + k, none⟩ = some (.slice l.A l.es.length l.c) :=
  h.r.cellAt (by rw [List.getElem?_map, hl]; rfl)
theorem RdT.entAt {w : World} {T : Tab} (h : RdT w T) {k i : Nat} {l : Leaf} {e : REntry} (hl : T.L[k]? = some l) (he : l.es[i]? = some e) :
    ∃ b o, l.A = some ⟨b, o, none⟩ ∧ b < w.heap.size ∧ w.cell? ⟨b, o + i * 2, none⟩ = some (.int .i64 e.f0) ∧ w.cell? ⟨b, o + i * 2 + 1, none⟩ = some (.bool e.f1) := by
  obtain ⟨b, o, x, hA, hb, hx, h0, h1⟩ := atEntry (h.l k l hl) (List.getElem?_eq_some_iff.1 he).1
  obtain rfl := Option.some.inj (hx.out.symm.trans he)
  exact ⟨b, o, hA, hb, h0, h1⟩

/-- things of another call, behind all that was -/
theorem Sep.join {W0 w w' : World} {L M : List Thing} (S : Sep W0 w L) (R : Sep w w' M) : Sep W0 w' (L ++ M) := by
  have S' := S.below R.bel
  have hidx : ∀ (i : Nat) (s : Thing), (L ++ M)[i]? = some s → (L[i]? = some s ∧ i < L.length) ∨ (M[i - L.length]? = some s ∧ L.length ≤ i) := by
    intro i s hs
    rw [List.getElem?_append] at hs
    split at hs
    · rename_i hl; exact .inl ⟨hs, hl⟩
    · rename_i hl; exact .inr ⟨hs, by omega⟩
  have hlo : ∀ (i : Nat) (s : Thing), L[i]? = some s → ∀ b, blk s.A = some b → b < w.heap.size := fun i s hs b hb => ((S.own i s hs).lt b (by rw [ownBlock_slice]; exact hb)).2
  have hhi : ∀ (i : Nat) (s : Thing), M[i]? = some s → ∀ b, blk s.A = some b → w.heap.size ≤ b := fun i s hs b hb => ((R.own i s hs).lt b (by rw [ownBlock_slice]; exact hb)).1
  refine ⟨S'.bel, fun i s hs => ?_, fun i j s u hij hs hu => ?_⟩
  · rcases hidx i s hs with ⟨h1, _⟩ | ⟨h1, _⟩
    · exact S'.own i s h1
    · exact own_less (R.own _ s h1) S.bel.size
  · rcases hidx i s hs with ⟨h1, h1l⟩ | ⟨h1, h1l⟩ <;> rcases hidx j u hu with ⟨h2, h2l⟩ | ⟨h2, h2l⟩
    · exact S.apart i j s u hij h1 h2
    · cases hs' : blk s.A with
      | none => exact .inl rfl
      | some b =>
        refine .inr fun e => ?_
        have h3 := hlo i s h1 b hs'
        have h4 := hhi _ u h2 b e.symm
        omega
    · cases hs' : blk s.A with
      | none => exact .inl rfl
      | some b =>
        refine .inr fun e => ?_
        have h3 := hhi _ s h1 b hs'
        have h4 := hlo j u h2 b e.symm
        omega
    · exact R.apart (i - L.length) (j - L.length) s u (by omega) h1 h2
theorem Sep.mid {W0 w : World} {P M Q : List Thing} (S : Sep W0 w (P ++ M ++ Q)) : Sep W0 w M := by
  have hidx : ∀ (i : Nat) (s : Thing), M[i]? = some s → (P ++ M ++ Q)[P.length + i]? = some s := by
    intro i s hs
    have hi := (List.getElem?_eq_some_iff.1 hs).1
    rw [List.append_assoc, List.getElem?_append_right (by omega), Nat.add_sub_cancel_left, List.getElem?_append_left hi]
    exact hs
  exact ⟨S.bel, fun i s hs => S.own _ s (hidx i s hs), fun i j s u hij hs hu => S.apart _ _ s u (by omega) (hidx i s hs) (hidx j u hu)⟩
theorem Sep.less {W0 W1 w : World} {M : List Thing} (S : Sep W1 w M) (hb : Below W0.heap.size W0 W1) : Sep W0 w M :=
  ⟨hb.trans (S.bel.mono hb.size), fun i s hs => own_less (S.own i s hs) hb.size, S.apart⟩
theorem Sep.tail {W0 w : World} {t : Thing} {M : List Thing} (S : Sep W0 w (t :: M)) : Sep W0 w M := Sep.mid (P := [t]) (Q := []) (by simpa using S)
theorem Sep.rdT {W0 w : World} {T : Tab} (S : Sep W0 w T.things) : RdT w T :=
  ⟨S.rd 0 rfl, S.rd 1 rfl, fun j x hx => S.rd (j + 2) (t := tL x) (by simp [Tab.things, hx])⟩

/-- groups of things, all in blocks apart -/
abbrev GS (W0 w : World) (G : List (List Thing)) : Prop := Sep W0 w G.flatten
theorem GS.start (W : World) : GS W W [] := Sep.start W
theorem GS.new {W0 w w' : World} {G : List (List Thing)} (S : GS W0 w G) {g : List Thing} (R : Sep w w' g) : GS W0 w' (G ++ [g]) := by
  have := Sep.join S R
  show Sep W0 w' (G ++ [g]).flatten
  rw [List.flatten_append, List.flatten_singleton]
  exact this
theorem GS.below {W0 w w' : World} {G : List (List Thing)} (S : GS W0 w G) (h : Below w.heap.size w w') : GS W0 w' G := Sep.below S h
theorem flat_at : ∀ {G : List (List Thing)} {i : Nat} {g : List Thing}, G[i]? = some g → ∃ P Q, G.flatten = P ++ g ++ Q ∧ ∀ g', (G.set i g').flatten = P ++ g' ++ Q
  | [], i, g, h => by simp at h
  | x :: G, 0, g, h => by
    simp at h; subst h
    exact ⟨[], G.flatten, by simp, fun g' => by simp⟩
  | x :: G, i + 1, g, h => by
    obtain ⟨P, Q, h1, h2⟩ := flat_at (G := G) (i := i) (g := g) (by simpa using h)
    exact ⟨x ++ P, Q, by rw [List.flatten_cons, h1]; simp [List.append_assoc], fun g' => by rw [List.set_cons_succ, List.flatten_cons, h2]; simp [List.append_assoc]⟩
theorem GS.at_ {W0 w : World} {G : List (List Thing)} (S : GS W0 w G) (i : Nat) {g : List Thing} (h : G[i]? = some g) : Sep W0 w g := by
  obtain ⟨P, Q, h1, _⟩ := flat_at h
  refine Sep.mid (P := P) (Q := Q) ?_
  rw [← h1]; exact S
theorem GS.rdT {W0 w : World} {G : List (List Thing)} (S : GS W0 w G) (i : Nat) {T : Tab} (h : G[i]? = some T.things) : RdT w T := (S.at_ i h).rdT
theorem GS.rd {W0 w : World} {G : List (List Thing)} (S : GS W0 w G) (i : Nat) {t : Thing} (h : G[i]? = some [t]) : Rd w t.size t.A t.n t.xs := (S.at_ i h).rd 0 rfl
theorem GS.own {W0 w : World} {G : List (List Thing)} (S : GS W0 w G) (i : Nat) {t : Thing} (h : G[i]? = some [t]) : Own w W0.heap.size t := (S.at_ i h).own 0 t rfl
theorem sep_one {w w' : World} {t : Thing} (hb : Below w.heap.size w w') (ho : Own w' w.heap.size t) : Sep w w' [t] := by
  have := (Sep.start w).new hb ho
  simpa using this
/-- a table of a call's own, whatever lies beside it -/
theorem GS.write {W0 w' : World} {G : List (List Thing)} (i : Nat) {g' : List Thing} {P Q : List Thing} (h : ∀ x, (G.set i x).flatten = P ++ x ++ Q) (S : Sep W0 w' (P ++ g' ++ Q)) : GS W0 w' (G.set i g') := by
  show Sep W0 w' (G.set i g').flatten
  rw [h]; exact S
/-- one of a single slice written -/
theorem GS.put {W0 w w' : World} {G : List (List Thing)} (S : GS W0 w G) (i : Nat) {t : Thing} (h : G[i]? = some [t]) (hg : w.grownBy w' (blk t.A)) (xs' : List Value) (ho : Own w' W0.heap.size { t with xs := xs' }) :
    GS W0 w' (G.set i [{ t with xs := xs' }]) := by
  obtain ⟨P, Q, h1, h2⟩ := flat_at h
  refine GS.write i h2 ?_
  have S' : Sep W0 w (P ++ [t] ++ Q) := by rw [← h1]; exact S
  have := S'.write P.length (by rw [List.append_assoc, List.getElem?_append_right (Nat.le_refl _), Nat.sub_self]; rfl) hg xs' ho
  have e : (P ++ [t] ++ Q).set P.length { t with xs := xs' } = P ++ [{ t with xs := xs' }] ++ Q := by
    rw [List.append_assoc, List.set_append_right _ _ (Nat.le_refl _), Nat.sub_self, List.append_assoc]; rfl
  rw [e] at this
  exact this
/-- one thing of a middle part written -/
theorem Sep.writeMid {W0 w w' : World} {P M Q : List Thing} (S : Sep W0 w (P ++ M ++ Q)) (i : Nat) {t : Thing} (h : M[i]? = some t) (hg : w.grownBy w' (blk t.A)) (xs' : List Value) (ho : Own w' W0.heap.size { t with xs := xs' }) :
    Sep W0 w' (P ++ M.set i { t with xs := xs' } ++ Q) := by
  have hi := (List.getElem?_eq_some_iff.1 h).1
  have := S.write (P.length + i) (t := t) (by rw [List.append_assoc, List.getElem?_append_right (by omega), Nat.add_sub_cancel_left, List.getElem?_append_left hi]; exact h) hg xs' ho
  have e : (P ++ M ++ Q).set (P.length + i) { t with xs := xs' } = P ++ M.set i { t with xs := xs' } ++ Q := by
    rw [List.append_assoc, List.set_append_right _ _ (by omega), Nat.add_sub_cancel_left, List.set_append_left _ _ hi, List.append_assoc]
  rw [e] at this
  exact this
theorem Sep.ownMid {W0 w : World} {P M Q : List Thing} (S : Sep W0 w (P ++ M ++ Q)) (i : Nat) {t : Thing} (h : M[i]? = some t) : Own w W0.heap.size t := S.mid.own i t h
end Go.Proofs.Ytaaocnfbbajphaa
