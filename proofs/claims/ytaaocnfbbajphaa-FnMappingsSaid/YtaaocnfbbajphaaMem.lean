/- Plain words on memory for this claim: a slice that reads as a list of cells; a list of slices of the call's own, in blocks apart. Nothing of the program is named. No conditions. -/
import Derived.WalkKit
import Derived.WalkSpells
import Derived.WalkLawsBesides
import Derived.BigQuiet
import Derived.Deep.QuietTactic
import Derived.Lib.Hide
import Derived.Maps.AppendAt
namespace Go.Proofs.Ytaaocnfbbajphaa
open Go.RowKit
set_option linter.unusedVariables false
set_option linter.unusedSimpArgs false

theorem bcell {W w1 : World} (hb : Below W.heap.size W w1) : (∀ b o, b < W.heap.size → w1.cell? ⟨b, o, none⟩ = W.cell? ⟨b, o, none⟩) ∧ (∀ b o, b < W.heap.size → w1.frozen? ⟨b, o, none⟩ = W.frozen? ⟨b, o, none⟩) :=
  ⟨fun b o h => hb.cell (p := ⟨b, o, none⟩) h, fun b o h => hb.frozen (p := ⟨b, o, none⟩) h⟩
theorem below_drewN {B : Nat} {a w : World} (h : Below B a w) (n : Nat) : Below B a (w.drewN n) := ⟨h.os, h.tape, h.output, h.size, h.block⟩

theorem below_next {a b c : World} (h : Below a.heap.size a b) (k : Below b.heap.size b c) : Below a.heap.size a c := h.trans (k.mono h.size)
theorem below_alloc (w : World) (o : Obj) : Below w.heap.size w (w.alloc o) := (Below.refl _ _).alloc (Nat.le_refl _) o
theorem ret_bool {a b : Bool} (h : a = b) : Ending.returned (.bool a) = .returned (.bool b) := by rw [h]
theorem ret_int {k : IntKind} {a b : Int} (h : a = b) : Ending.returned (.int k a) = .returned (.int k b) := by rw [h]
theorem ret_bool2 {a b : Bool} {v : Value} (h : a = b) : Ending.returned (.tuple #[v, .bool a]) = .returned (.tuple #[v, .bool b]) := by rw [h]
/-- a list of ints as cells -/
def I (l : List Int) : List Value := l.map (Value.int .i64)
theorem I_length (l : List Int) : (I l).length = l.length := by simp [I]
theorem I_get {l : List Int} {k : Nat} (h : k < l.length) : (I l)[k]? = some (.int .i64 (l[k]?.getD 0)) := by simp [I, h]
theorem I_take (l : List Int) (k : Nat) : (I l).take k = I (l.take k) := by simp [I, List.map_take]
theorem I_append (a b : List Int) : I (a ++ b) = I a ++ I b := by simp [I]
theorem I_inj : ∀ {a b : List Int}, I a = I b → a = b
  | [], [], _ => rfl
  | [], _ :: _, h => by simp [I] at h
  | _ :: _, [], h => by simp [I] at h
  | x :: a, y :: b, h => by
    simp only [I, List.map_cons, List.cons.injEq, Value.int.injEq, true_and] at h
    rw [h.1, I_inj (a := a) (b := b) h.2]
theorem I_set (l : List Int) (k : Nat) (x : Int) : (I l).set k (.int .i64 x) = I (l.set k x) := by simp [I, List.map_set]

/-- the slice (A, n) reads as the cells xs -/
def Rd (w : World) (size : Nat) (A : Option Addr) (n : Nat) (xs : List Value) : Prop :=
  xs.length = n * size ∧ (0 < n → ∃ b o, A = some ⟨b, o, none⟩ ∧ b < w.heap.size ∧ ∀ j u, xs[j]? = some u → w.cell? ⟨b, o + j, none⟩ = some u)

theorem Rd.keep {w w' : World} {size n : Nat} {A : Option Addr} {xs : List Value} (h : Rd w size A n xs) (hb : Below w.heap.size w w') : Rd w' size A n xs := by
  refine ⟨h.1, fun hn => ?_⟩
  obtain ⟨b, o, hA, hlt, hc⟩ := h.2 hn
  exact ⟨b, o, hA, Nat.lt_of_lt_of_le hlt hb.size, fun j u hu => by rw [hb.cell (p := ⟨b, o + j, none⟩) hlt]; exact hc j u hu⟩
theorem Rd.nil_ (w : World) (size : Nat) (A : Option Addr) : Rd w size A 0 [] := ⟨by simp, fun h => absurd h (by omega)⟩

/-- a block known whole: a variable of the call's own -/
structure Box (w : World) (g : Nat) (t : TypeId) (cs : Array Value) : Prop where
  at_ : w.heap[g]? = some (.cells cs t (0, 0))
theorem Box.lt {w : World} {g : Nat} {t : TypeId} {cs : Array Value} (h : Box w g t cs) : g < w.heap.size := (Array.getElem?_eq_some_iff.1 h.at_).1
theorem Box.new (w : World) (t : TypeId) (cs : Array Value) : Box (w.alloc (.cells cs t)) w.heap.size t cs := ⟨heap_alloc_new w _⟩
theorem Box.keep {w w' : World} {g : Nat} {t : TypeId} {cs : Array Value} (h : Box w g t cs) (hb : Below w.heap.size w w') : Box w' g t cs := ⟨(hb.block g h.lt).trans h.at_⟩
theorem Box.alloc {w : World} {g : Nat} {t : TypeId} {cs : Array Value} (h : Box w g t cs) (o : Obj) : Box (w.alloc o) g t cs := h.keep ((Below.refl _ _).alloc (Nat.le_refl _) o)
theorem Box.drew {w : World} {g : Nat} {t : TypeId} {cs : Array Value} (h : Box w g t cs) : Box w.drew g t cs := ⟨h.at_⟩
theorem Box.cell {w : World} {g : Nat} {t : TypeId} {cs : Array Value} (h : Box w g t cs) : ∀ i, w.cell? ⟨g, i, none⟩ = cs[i]? := fun i => cell_of_row w g i cs t (0, 0) h.at_
theorem Box.free {w : World} {g : Nat} {t : TypeId} {cs : Array Value} (h : Box w g t cs) : ∀ i, w.frozen? ⟨g, i, none⟩ = false := fun i => frozen_of_row w g i cs t h.at_
theorem Box.put {w : World} {g : Nat} {t : TypeId} {cs : Array Value} (h : Box w g t cs) (i : Nat) (u : Value) : Box (w.setCell ⟨g, i, none⟩ u) g t (cs.setIfInBounds i u) := ⟨heap_setCell_same w g i cs t u h.at_⟩
theorem Box.far {w : World} {g : Nat} {t : TypeId} {cs : Array Value} (h : Box w g t cs) {a : Addr} (ha : g ≠ a.block) (u : Value) : Box (w.setCell a u) g t cs := ⟨(heap_setCell_other w a g u ha).trans h.at_⟩

/-- the worlds that keep all that was there in W -/
def Ext (W : World) : Type := { w : World // Below W.heap.size W w }
instance (W : World) : Nonempty (Ext W) := ⟨⟨W, Below.refl _ _⟩⟩
theorem Ext.cell {W : World} (b : Nat) (hb : b < W.heap.size) : ∀ (x : Ext W) (i : Nat), x.1.cell? ⟨b, i, none⟩ = W.cell? ⟨b, i, none⟩ := fun x i => x.2.cell (p := ⟨b, i, none⟩) hb
theorem Ext.box {W : World} {g : Nat} {t : TypeId} {cs : Array Value} (h : Box W g t cs) : ∀ (x : Ext W) (i : Nat), x.1.cell? ⟨g, i, none⟩ = cs[i]? := fun x i => (h.keep x.2).cell i
/-- a region that draws its order, where each operation reads what was there, or calls what yields one value and leaves what was there: one walk in the order of the text -/
theorem wp_region_ext {P : Program} {id : Nat} {Q : Exit → Act → World → Prop} {a : Act} {W : World} {l : List Oper} (hm : P.follows .mixedOrders = true) (hB : Region.lexB .any l.toArray = true)
    (h : wpQuiet P l.toArray (fun w' => ∃ x : Ext W, w' = x.1) (fun a' => ∀ w', (∃ x : Ext W, w' = x.1) → Q .normal a' w') l a) : (Code.region id l.toArray true).wp P Q a W :=
  wp_region_quiet (C := fun w' => ∃ x : Ext W, w' = x.1) hm hB ⟨⟨W.drew, (Below.refl _ _).drew⟩, rfl⟩ (by simpa using h)
theorem calls_ext {P : Program} {f : FuncId} {args : Array Value} {W : World} {v : Value} {x : Ext W}
    (h : Calls P f args x.1 fun e w' => e = .returned v ∧ Below x.1.heap.size x.1 w') : Calls P f args x.1 fun e w'' => e = .returned v ∧ ∃ y : Ext W, w'' = y.1 :=
  h.mono fun _ w' ⟨he, hb⟩ => ⟨he, ⟨w', below_next x.2 hb⟩, rfl⟩
theorem calls_ext_same {P : Program} {f : FuncId} {args : Array Value} {W : World} {v : Value} {x : Ext W}
    (h : Calls P f args x.1 fun e w' => e = .returned v ∧ x.1 = w') : Calls P f args x.1 fun e w'' => e = .returned v ∧ ∃ y : Ext W, w'' = y.1 :=
  h.mono fun _ w' ⟨he, hb⟩ => ⟨he, x, hb.symm⟩

/-- what a region keeps: the frame below, and one variable of the call's own -/
def Kp (w0 : World) (g : Nat) (t : TypeId) (cs : Array Value) (w : World) : Prop := Below w0.heap.size w0 w ∧ Box w g t cs
theorem Kp.keep {w0 w w' : World} {g : Nat} {t : TypeId} {cs : Array Value} (h : Kp w0 g t cs w) (hb : Below w.heap.size w w') : Kp w0 g t cs w' := ⟨below_next h.1 hb, h.2.keep hb⟩
theorem Kp.start (w : World) (t : TypeId) (cs : Array Value) : Kp w w.heap.size t cs (w.alloc (.cells cs t)).drew := ⟨(below_alloc w _).drew, (Box.new w t cs).drew⟩
theorem Kp.cell {w0 w : World} {g : Nat} {t : TypeId} {cs : Array Value} (h : Kp w0 g t cs w) : ∀ i, w.cell? ⟨g, i, none⟩ = cs[i]? := h.2.cell

/-- a slice of the call's own -/
structure Thing where
  e : TypeId
  size : Nat
  A : Option Addr
  n : Nat
  c : Nat
  xs : List Value

abbrev Own (w : World) (B : Nat) (t : Thing) : Prop := w.ownsRow B t.e t.size (.slice t.A t.n t.c) t.n t.xs
def blk : Option Addr → Option Nat
  | some a => some a.block
  | none => none
theorem ownBlock_slice (A : Option Addr) (n c : Nat) : (Value.slice A n c).ownBlock = blk A := by cases A <;> rfl

theorem Own.rd {w : World} {B : Nat} {t : Thing} (h : Own w B t) : Rd w t.size t.A t.n t.xs := by
  refine ⟨h.1, fun hn => ?_⟩
  rcases h.2 with ⟨_, h0⟩ | ⟨g, cap, cur, hv, hB, hg, hnc, hcm, hsz, htk⟩
  · omega
  · simp only [Value.slice.injEq] at hv
    obtain ⟨hA, _, _⟩ := hv
    refine ⟨g, 0, hA, (Array.getElem?_eq_some_iff.1 hg).1, fun j u hu => ?_⟩
    have hj : j < t.n * t.size := by
      have := (List.getElem?_eq_some_iff.1 hu).1
      rw [h.1] at this; exact this
    rw [Nat.zero_add, cell_of_row w g j cur t.e (0, 0) hg]
    rw [← htk, List.getElem?_take_of_lt hj] at hu
    simpa using hu

/-- blocks of the call's own, all from W0's end on, in blocks apart; below, the world is W0 -/
structure Sep (W0 w : World) (L : List Thing) : Prop where
  bel : Below W0.heap.size W0 w
  own : ∀ (i : Nat) (t : Thing), L[i]? = some t → Own w W0.heap.size t
  apart : ∀ (i j : Nat) (s t : Thing), i ≠ j → L[i]? = some s → L[j]? = some t → blk s.A = none ∨ blk s.A ≠ blk t.A

theorem Sep.start (W : World) : Sep W W [] := ⟨Below.refl _ _, fun i t h => by simp at h, fun i j s t _ h => by simp at h⟩
theorem Sep.rd {W0 w : World} {L : List Thing} (S : Sep W0 w L) (i : Nat) {t : Thing} (h : L[i]? = some t) : Rd w t.size t.A t.n t.xs := (S.own i t h).rd
theorem grown_of_below {w w' : World} (h : Below w.heap.size w w') (r : Option Nat) : w.grownBy w' r := ⟨h.os, h.tape, h.output, h.size, fun k hk _ => h.block k hk⟩
theorem Sep.below {W0 w w' : World} {L : List Thing} (S : Sep W0 w L) (h : Below w.heap.size w w') : Sep W0 w' L :=
  ⟨S.bel.trans (h.mono S.bel.size), fun i t ht => (S.own i t ht).kept (row := none) (grown_of_below h _) (by cases hA : t.A <;> simp [ownBlock_slice, blk]), S.apart⟩
theorem Sep.new {W0 w w' : World} {L : List Thing} (S : Sep W0 w L) (h : Below w.heap.size w w') {t : Thing} (ho : Own w' w.heap.size t) : Sep W0 w' (L ++ [t]) := by
  have S' := S.below h
  have hlt : ∀ (i : Nat) (s : Thing), L[i]? = some s → blk s.A = none ∨ blk s.A ≠ blk t.A := by
    intro i s hs
    cases hA : blk s.A with
    | none => exact .inl rfl
    | some k =>
      refine .inr fun e => ?_
      have h1 := (S.own i s hs).lt k (by rw [ownBlock_slice]; exact hA)
      have h2 := ho.lt k (by rw [ownBlock_slice]; exact e.symm)
      omega
  have hidx : ∀ (i : Nat) (s : Thing), (L ++ [t])[i]? = some s → (L[i]? = some s ∧ i < L.length) ∨ (i = L.length ∧ s = t) := by
    intro i s hs
    rw [List.getElem?_append] at hs
    split at hs
    · rename_i hl; exact .inl ⟨hs, hl⟩
    · rename_i hl
      by_cases hi : i = L.length
      · subst hi; simp at hs; exact .inr ⟨rfl, hs.symm⟩
      · rw [List.getElem?_eq_none (by simp; omega)] at hs; cases hs
  refine ⟨S'.bel, fun i s hs => ?_, fun i j s u hij hs hu => ?_⟩
  · rcases hidx i s hs with ⟨h1, _⟩ | ⟨_, rfl⟩
    · exact S'.own i s h1
    · obtain ⟨ha, hb⟩ := ho
      refine ⟨ha, ?_⟩
      rcases hb with hb | ⟨g, cap, cur, hv, hB, r⟩
      · exact .inl hb
      · exact .inr ⟨g, cap, cur, hv, Nat.le_trans S.bel.size hB, r⟩
  · rcases hidx i s hs with ⟨h1, _⟩ | ⟨h1, rfl⟩ <;> rcases hidx j u hu with ⟨h2, _⟩ | ⟨h2, rfl⟩
    · exact S.apart i j s u hij h1 h2
    · exact hlt i s h1
    · rcases hlt j u h2 with h3 | h3
      · cases hA : blk s.A with
        | none => exact .inl rfl
        | some k => exact .inr (by rw [h3]; simp)
      · cases hA : blk s.A with
        | none => exact .inl rfl
        | some k => exact .inr (fun e => h3 (by rw [hA]; exact e.symm))
    · omega
theorem Sep.new2 {W0 w w' : World} {L : List Thing} (S : Sep W0 w L) (h : Below w.heap.size w w') {t u : Thing} (ho : Own w' w.heap.size t) (hu : Own w' w.heap.size u) (hd : blk t.A = none ∨ blk t.A ≠ blk u.A) : Sep W0 w' (L ++ [t] ++ [u]) := by
  have S1 := S.new h ho
  have S2 := S.new h hu
  have hlen : ∀ (x : Thing), (L ++ [x]).length = L.length + 1 := fun x => by simp
  have hidx : ∀ (i : Nat) (s : Thing), (L ++ [t] ++ [u])[i]? = some s → ((L ++ [t])[i]? = some s ∧ i < L.length + 1) ∨ (i = L.length + 1 ∧ s = u) := by
    intro i s hs
    rw [List.getElem?_append] at hs
    split at hs
    · rename_i hl; exact .inl ⟨hs, by rw [hlen] at hl; exact hl⟩
    · rename_i hl
      rw [hlen] at hl hs
      by_cases hi : i = L.length + 1
      · subst hi; simp at hs; exact .inr ⟨rfl, hs.symm⟩
      · rw [List.getElem?_eq_none (by simp; omega)] at hs; cases hs
  have hu2 : (L ++ [u])[L.length]? = some u := by simp
  have hL : ∀ (i : Nat) (s : Thing), (L ++ [t])[i]? = some s → i < L.length → (L ++ [u])[i]? = some s := by
    intro i s hs hi
    rw [List.getElem?_append_left hi] at hs ⊢
    exact hs
  have hlast : ∀ (i : Nat) (s : Thing), (L ++ [t])[i]? = some s → ¬ i < L.length → i < L.length + 1 → s = t := by
    intro i s hs h1 h2
    obtain rfl : i = L.length := by omega
    simp at hs; exact hs.symm
  refine ⟨S1.bel, fun i s hs => ?_, fun i j s v hij hs hv => ?_⟩
  · rcases hidx i s hs with ⟨h1, _⟩ | ⟨_, rfl⟩
    · exact S1.own i s h1
    · exact S2.own L.length s hu2
  · rcases hidx i s hs with ⟨h1, h1l⟩ | ⟨h1, rfl⟩ <;> rcases hidx j v hv with ⟨h2, h2l⟩ | ⟨h2, rfl⟩
    · exact S1.apart i j s v hij h1 h2
    · by_cases hi : i < L.length
      · exact S2.apart i L.length s v (by omega) (hL i s h1 hi) hu2
      · rw [hlast i s h1 hi h1l]; exact hd
    · by_cases hj : j < L.length
      · exact S2.apart L.length j s v (by omega) hu2 (hL j v h2 hj)
      · rw [hlast j v h2 hj h2l]
        rcases hd with h3 | h3
        · cases hA : blk s.A with
          | none => exact .inl rfl
          | some k => exact .inr (by rw [h3]; simp)
        · cases hA : blk s.A with
          | none => exact .inl rfl
          | some k => exact .inr (fun e => h3 (by rw [hA]; exact e.symm))
    · omega
/-- one of them is written -/
theorem Sep.write {W0 w w' : World} {L : List Thing} (S : Sep W0 w L) (i : Nat) {t : Thing} (h : L[i]? = some t) (hg : w.grownBy w' (blk t.A)) (xs' : List Value)
    (ho : Own w' W0.heap.size { t with xs := xs' }) : Sep W0 w' (L.set i { t with xs := xs' }) := by
  have hil : i < L.length := (List.getElem?_eq_some_iff.1 h).1
  have hidx : ∀ (j : Nat) (s : Thing), (L.set i { t with xs := xs' })[j]? = some s → (j ≠ i ∧ L[j]? = some s) ∨ (j = i ∧ s = { t with xs := xs' }) := by
    intro j s hs
    by_cases hji : j = i
    · subst hji; rw [List.getElem?_set_self hil] at hs; exact .inr ⟨rfl, (Option.some.inj hs).symm⟩
    · rw [List.getElem?_set_ne (fun e => hji e.symm)] at hs; exact .inl ⟨hji, hs⟩
  refine ⟨⟨hg.os.trans S.bel.os, hg.tape.trans S.bel.tape, hg.output.trans S.bel.output, Nat.le_trans S.bel.size hg.size, fun k hk => ?_⟩, fun j s hs => ?_, fun j k s u hjk hs hu => ?_⟩
  · refine (hg.block k (Nat.lt_of_lt_of_le hk S.bel.size) fun e => ?_).trans (S.bel.block k hk)
    have := (S.own i t h).lt k (by rw [ownBlock_slice]; exact e.symm)
    omega
  · rcases hidx j s hs with ⟨hne, h1⟩ | ⟨_, rfl⟩
    · refine (S.own j s h1).kept hg ?_
      rw [ownBlock_slice]
      exact S.apart j i s t hne h1 h
    · exact ho
  · rcases hidx j s hs with ⟨hne, h1⟩ | ⟨rfl, rfl⟩ <;> rcases hidx k u hu with ⟨hne2, h2⟩ | ⟨rfl, rfl⟩
    · exact S.apart j k s u hjk h1 h2
    · exact S.apart j _ s t hne h1 h
    · exact S.apart _ k t u hjk h h2
    · omega
/-- a variable of the call's own, as a thing -/
abbrev bx (e : TypeId) (size g : Nat) (xs : List Value) : Thing := ⟨e, size, some ⟨g, 0, none⟩, 1, 1, xs⟩
theorem own_bx (w : World) (e : TypeId) (size : Nat) (cs : Array Value) (h : cs.size = size) : Own (w.alloc (.cells cs e)) w.heap.size (bx e size w.heap.size cs.toList) :=
  World.ownsRow_lit w cs 1 (Nat.le_refl _) (by decide) (by show cs.size = 1 * size; omega)
theorem own_box {w : World} {B : Nat} {e : TypeId} {size g : Nat} {xs : List Value} (h : Own w B (bx e size g xs)) : ∀ j, w.cell? ⟨g, j, none⟩ = xs.toArray[j]? := by
  intro j
  rcases h.2 with ⟨h1, _⟩ | ⟨g', cap, cur, hv, hB, hg, hnc, hcm, hsz, htk⟩
  · simp at h1
  · simp only [Value.slice.injEq, Option.some.injEq, Addr.mk.injEq, and_true] at hv
    obtain ⟨rfl, _, rfl⟩ := hv
    rw [List.take_of_length_le (by rw [Array.length_toList, hsz]; exact Nat.le_refl _)] at htk
    have htk' : cur.toList = xs := htk
    rw [cell_of_row w g j cur e (0, 0) hg, ← htk']
theorem own_free {w : World} {B : Nat} {e : TypeId} {size g : Nat} {xs : List Value} (h : Own w B (bx e size g xs)) : ∀ j, w.frozen? ⟨g, j, none⟩ = false := fun j => World.ownsRow.frozenAt h j
theorem own_lt {w : World} {B : Nat} {e : TypeId} {size g : Nat} {xs : List Value} (h : Own w B (bx e size g xs)) : g < w.heap.size := (World.ownsRow.lt h g rfl).2
/-- a reading of an argument is kept -/
theorem Rd.sep {W0 w : World} {L : List Thing} {size n : Nat} {A : Option Addr} {xs : List Value} (h : Rd W0 size A n xs) (S : Sep W0 w L) : Rd w size A n xs := h.keep S.bel

/-- what a new block holds, read as a slice -/
theorem Rd.newRow (w : World) (cs : Array Value) (t : TypeId) (size n : Nat) (h : cs.size = n * size) : Rd (w.alloc (.cells cs t)) size (some ⟨w.heap.size, 0, none⟩) n cs.toList :=
  ⟨by simpa using h, fun _ => ⟨w.heap.size, 0, rfl, by simp, fun j u hu => by
    rw [cell_of_row (w.alloc (.cells cs t)) w.heap.size (0 + j) cs t (0, 0) (heap_alloc_new w _)]
    simpa using hu⟩⟩
theorem Rd.one (w : World) (x : Value) (t : TypeId) : Rd (w.alloc (.cells #[x] t)) 1 (some ⟨w.heap.size, 0, none⟩) 1 [x] := Rd.newRow w #[x] t 1 1 rfl
theorem Rd.drew {w : World} {size n : Nat} {A : Option Addr} {xs : List Value} (h : Rd w size A n xs) : Rd w.drew size A n xs := h
theorem own_form {w : World} {base : Nat} {e : TypeId} {size : Nat} {v : Value} {n : Nat} {xs : List Value} (h : w.ownsRow base e size v n xs) : ∃ A c, v = .slice A n c := by
  rcases h.2 with ⟨rfl, rfl⟩ | ⟨g, cap, cur, rfl, _⟩
  · exact ⟨none, 0, rfl⟩
  · exact ⟨some ⟨g, 0, none⟩, cap, rfl⟩
theorem own_cap {w : World} {base : Nat} {e : TypeId} {size : Nat} {A : Option Addr} {n c : Nat} {xs : List Value} (h : w.ownsRow base e size (.slice A n c) n xs) : n ≤ c ∧ c ≤ maxLen := by
  rcases h.2 with ⟨h1, rfl⟩ | ⟨g, cap, cur, h1, _, _, h2, h3, _⟩
  · exact ⟨Nat.zero_le _, by simp only [Value.slice.injEq] at h1; omega⟩
  · simp only [Value.slice.injEq] at h1; omega

section
variable {P : Program} (w : World)
theorem run_app_nil (base : Nat) (t ty e : TypeId) (i : TypeInfo) (size : Nat) (ht : P.underlying t = some (.slice e)) (hi : P.info? e = some i)
    (v : Value) (n : Nat) (xs : List Value) (hown : w.ownsRow base e size v n xs) (c : Nat) : (Builtin.append_ #[t, t] ty #[v, .slice none 0 c]).run P w = .ok v w := by
  rcases hown.2 with ⟨rfl, rfl⟩ | ⟨g, cap, cur, rfl, _, _, hnc, _⟩
  · simp [Builtin.append_, run_underlying ht, sizeOf, typeInfo, hi, Builtin.lenOf, Builtin.firstCells]
  · simp [Builtin.append_, run_underlying ht, sizeOf, typeInfo, hi, Builtin.lenOf, Builtin.firstCells, hnc, storeCells]

/-- append onto a slice of the call's own, whatever the source -/
theorem run_app (base : Nat) (t ty e : TypeId) (i : TypeInfo) (z : Value) (size bytes : Nat) (ht : P.underlying t = some (.slice e)) (hi : P.info? e = some i) (hz : i.zero = some z)
    (hsize : i.size = size) (hby : i.bytes = bytes) (hzs : z.cells.size = size) (hsz : 0 < size)
    (A : Option Addr) (n c : Nat) (xs : List Value) (hown : w.ownsRow base e size (.slice A n c) n xs)
    (A2 : Option Addr) (m c2 : Nat) (news : List Value) (hr : Rd w size A2 m news) (h1 : ∀ u ∈ news, u.oneCell' = true)
    (h63 : n + m ≤ maxLen) (hbytes : (n + m) * bytes ≤ 140737488355328) (hbase : base ≤ w.heap.size) :
    ∃ A' c' w', (Builtin.append_ #[t, t] ty #[.slice A n c, .slice A2 m c2]).run P w = .ok (.slice A' (n + m) c') w' ∧ w'.ownsRow base e size (.slice A' (n + m) c') (n + m) (xs ++ news) ∧ w.grownBy w' (blk A) ∧
      (blk A' = blk A ∨ blk A' = some w.heap.size) := by
  have nil_news : m = 0 → news = [] := fun h0 => List.eq_nil_of_length_eq_zero (by rw [hr.1, h0, Nat.zero_mul])
  rcases A2 with _ | ad
  · have hm : m = 0 := by
      rcases Nat.eq_zero_or_pos m with h0 | h0
      · exact h0
      · obtain ⟨_, _, h, _⟩ := hr.2 h0
        cases h
    have hnn := nil_news hm
    subst hm
    subst hnn
    exact ⟨A, c, w, run_app_nil w base t ty e i size ht hi _ n xs hown c2, by simpa using hown, World.grownBy.refl w _, .inl rfl⟩
  · have hcells : ∀ j u, news[j]? = some u → w.cell? (ad.add j) = some u := by
      intro j u hu
      rcases Nat.eq_zero_or_pos m with h0 | h0
      · rw [nil_news h0] at hu
        simp at hu
      · obtain ⟨b, o, h, _, hc⟩ := hr.2 h0
        obtain rfl := Option.some.inj h
        have hadd : (⟨b, o, none⟩ : Addr).add j = ⟨b, o + j, none⟩ := by unfold Addr.add; split <;> simp_all
        rw [hadd]
        exact hc j u hu
    obtain ⟨v', w', hrun, h2, h3, _, h5⟩ := run_append_own_at (P := P) w base t ty e i z size bytes ht hi hz hsize hby hzs hsz _ n xs hown ad m c2 news hr.1 hcells h1 h63 hbytes hbase
    obtain ⟨A', c', rfl⟩ := own_form h2
    rw [ownBlock_slice] at h3
    rw [ownBlock_slice, ownBlock_slice] at h5
    exact ⟨A', c', w', hrun, h2, h3, h5⟩

theorem wp_app {o : Oper} {a : Act} {K : Act → World → Prop} {Q : Exit → Act → World → Prop} (s x : Operand) (t : TypeId)
    (ho : o.op = .call { callee := .builtin .append, args := #[s, x], argTypes := #[t, t] })
    (base : Nat) (e : TypeId) (i : TypeInfo) (z : Value) (size bytes : Nat) (ht : P.underlying t = some (.slice e)) (hi : P.info? e = some i) (hz : i.zero = some z)
    (hsize : i.size = size) (hby : i.bytes = bytes) (hzs : z.cells.size = size) (hsz : 0 < size)
    (A : Option Addr) (n c : Nat) (xs : List Value) (hs : a.eval s = .slice A n c) (hown : w.ownsRow base e size (.slice A n c) n xs)
    (A2 : Option Addr) (m c2 : Nat) (news : List Value) (hx : a.eval x = .slice A2 m c2) (hr : Rd w size A2 m news) (h1 : ∀ u ∈ news, u.oneCell' = true)
    (h63 : n + m ≤ maxLen) (hbytes : (n + m) * bytes ≤ 140737488355328) (hbase : base ≤ w.heap.size)
    (h : ∀ A' c' w', w'.ownsRow base e size (.slice A' (n + m) c') (n + m) (xs ++ news) → w.grownBy w' (blk A) → (blk A' = blk A ∨ blk A' = some w.heap.size) → K (a.put o.dst (.slice A' (n + m) c')) w') : o.wp P a w K Q := by
  obtain ⟨A', c', w', hrun, h2, h3, h4⟩ := run_app (P := P) w base t o.type e i z size bytes ht hi hz hsize hby hzs hsz A n c xs hown A2 m c2 news hr h1 h63 hbytes hbase
  unfold Oper.wp execOp
  simp only [ho, resolve, invoke, builtin, Sem.run_bind, Sem.run_pure, Result.andThen_ok, List.map_toArray, List.map_cons, List.map_nil, hs, hx, hrun]
  exact h A' c' w' h2 h3 h4

theorem wpList_app {ops : Array Oper} {rest : List Oper} {o : Oper} {a : Act} {Q : Exit → Act → World → Prop} (hgd : o.guard = none) (s x : Operand) (t : TypeId)
    (ho : o.op = .call { callee := .builtin .append, args := #[s, x], argTypes := #[t, t] })
    (base : Nat) (e : TypeId) (i : TypeInfo) (z : Value) (size bytes : Nat) (ht : P.underlying t = some (.slice e)) (hi : P.info? e = some i) (hz : i.zero = some z)
    (hsize : i.size = size) (hby : i.bytes = bytes) (hzs : z.cells.size = size) (hsz : 0 < size)
    (A : Option Addr) (n c : Nat) (xs : List Value) (hs : a.eval s = .slice A n c) (hown : w.ownsRow base e size (.slice A n c) n xs)
    (A2 : Option Addr) (m c2 : Nat) (news : List Value) (hx : a.eval x = .slice A2 m c2) (hr : Rd w size A2 m news) (h1 : ∀ u ∈ news, u.oneCell' = true)
    (h63 : n + m ≤ maxLen) (hbytes : (n + m) * bytes ≤ 140737488355328) (hbase : base ≤ w.heap.size)
    (h : ∀ A' c' w', w'.ownsRow base e size (.slice A' (n + m) c') (n + m) (xs ++ news) → w.grownBy w' (blk A) → (blk A' = blk A ∨ blk A' = some w.heap.size) → wpList P ops Q rest (a.put o.dst (.slice A' (n + m) c')) w') :
    wpList P ops Q (o :: rest) a w :=
  wpList_plain hgd fun _ hK => wp_app w s x t ho base e i z size bytes ht hi hz hsize hby hzs hsz A n c xs hs hown A2 m c2 news hx hr h1 h63 hbytes hbase fun A' c' w' h2 h3 h4 => hK _ _ (h A' c' w' h2 h3 h4)
end
/-- behind an append onto a slice of the call's own, what was there when the call began is as it was -/
theorem below_app {B : Nat} {w0 w w' : World} {e : TypeId} {size : Nat} {A : Option Addr} {n c : Nat} {xs : List Value} (h : Below B w0 w) (hB : B ≤ w.heap.size) (hown : w.ownsRow B e size (.slice A n c) n xs) (hg : w.grownBy w' (blk A)) : Below B w0 w' :=
  h.grown hg hB fun k hk => (hown.lt k (by rw [ownBlock_slice]; exact hk)).1
theorem own_less {w : World} {B B' : Nat} {e : TypeId} {size : Nat} {v : Value} {n : Nat} {xs : List Value} (h : w.ownsRow B e size v n xs) (hB : B' ≤ B) : w.ownsRow B' e size v n xs := by
  refine ⟨h.1, ?_⟩
  rcases h.2 with h2 | ⟨g, cap, cur, hv, hb, r⟩
  · exact .inl h2
  · exact .inr ⟨g, cap, cur, hv, Nat.le_trans hB hb, r⟩
end Go.Proofs.Ytaaocnfbbajphaa
