/- Plain words on slices of records of several cells: a list of records as cells, how a record is read and written. Nothing of the program is named. No conditions. -/
import Derived.Test.YtaaocnfbbajphaaMem
namespace Go.Proofs.Ytaaocnfbbajphaa
open Go.RowKit
set_option linter.unusedVariables false
set_option linter.unusedSimpArgs false

/-- the cells of a list of records -/
def J {α : Type} (f : α → List Value) (l : List α) : List Value := l.flatMap f
section
variable {α : Type} {f : α → List Value} {m : Nat}
theorem J_nil : J f [] = [] := rfl
theorem J_cons (x : α) (l : List α) : J f (x :: l) = f x ++ J f l := by simp [J]
theorem J_append (a b : List α) : J f (a ++ b) = J f a ++ J f b := by simp [J]
theorem J_length (hf : ∀ x, (f x).length = m) : ∀ l : List α, (J f l).length = l.length * m
  | [] => by simp [J]
  | x :: l => by rw [J_cons, List.length_append, hf, J_length hf l, List.length_cons, Nat.succ_mul, Nat.add_comm]
theorem J_get (hf : ∀ x, (f x).length = m) : ∀ {l : List α} {k j : Nat} {x : α}, l[k]? = some x → j < m → (J f l)[k * m + j]? = (f x)[j]?
  | [], k, j, x, h, _ => by simp at h
  | y :: l, 0, j, x, h, hj => by
    simp at h; subst h
    rw [J_cons, Nat.zero_mul, Nat.zero_add, List.getElem?_append_left (by rw [hf]; exact hj)]
  | y :: l, k + 1, j, x, h, hj => by
    rw [J_cons, List.getElem?_append_right (by rw [hf, Nat.succ_mul]; omega), hf]
    have : (k + 1) * m + j - m = k * m + j := by rw [Nat.succ_mul]; omega
    rw [this]
    exact J_get hf (by simpa using h) hj
theorem J_take (hf : ∀ x, (f x).length = m) : ∀ (l : List α) (k : Nat), (J f l).take (k * m) = J f (l.take k)
  | [], k => by simp [J]
  | x :: l, 0 => by simp [J]
  | x :: l, k + 1 => by
    rw [J_cons, List.take_succ_cons, J_cons, List.take_append, hf, Nat.succ_mul, List.take_of_length_le (by rw [hf]; omega), Nat.add_sub_cancel, J_take hf l k]

theorem made_J (hf : ∀ x, (f x).length = m) (hm : 0 < m) {x : α} {z : Array Value} (hz : z.toList = f x) (n : Nat) : (madeCells z (n * m)).toList = J f (List.replicate n x) := by
  have hs : z.size = m := by rw [← Array.length_toList, hz, hf]
  apply List.ext_getElem?
  intro j
  by_cases hj : j < n * m
  · have h1 : j / m < n := Nat.div_lt_of_lt_mul (by rw [Nat.mul_comm]; exact hj)
    have h2 : (List.replicate n x)[j / m]? = some x := by rw [List.getElem?_replicate, if_pos h1]
    have h3 := J_get hf h2 (Nat.mod_lt j hm)
    rw [Nat.mul_comm, Nat.div_add_mod] at h3
    have hlt : j % m < z.size := by rw [hs]; exact Nat.mod_lt j hm
    rw [h3, ← hz]
    simp [madeCells, hj, hs]
    rw [← hs]
    simp [← hs] at hlt
    simp [hlt]
  · rw [List.getElem?_eq_none (by rw [Array.length_toList, size_madeCells]; omega), List.getElem?_eq_none (by rw [J_length hf, List.length_replicate]; omega)]

theorem set_fillA (xs : List α) (z : α) (k : Nat) (x : α) (hx : xs[k]? = some x) :
    (xs.take k ++ List.replicate (xs.length - k) z).set k x = xs.take (k + 1) ++ List.replicate (xs.length - (k + 1)) z := by
  have hk : k < xs.length := (List.getElem?_eq_some_iff.1 hx).1
  have h1 : (xs.take k).length = k := by simp; omega
  have h2 : xs.length - k = (xs.length - (k + 1)) + 1 := by omega
  rw [List.set_append, if_neg (by omega), h1, Nat.sub_self, h2, List.replicate_succ, List.set_cons_zero, List.take_add_one, hx, List.append_assoc]
  rfl
theorem fill_get (xs : List α) (z : α) (k : Nat) (hk : k < xs.length) : (xs.take k ++ List.replicate (xs.length - k) z)[k]? = some z := by
  have h1 : (xs.take k).length = k := by simp; omega
  rw [List.getElem?_append_right (by omega), h1, Nat.sub_self, List.getElem?_replicate, if_pos (by omega)]
theorem fill_len (xs : List α) (z : α) (k : Nat) (hk : k ≤ xs.length) : (xs.take k ++ List.replicate (xs.length - k) z).length = xs.length := by simp; omega

theorem set_mix (L xs : List α) (k : Nat) (x : α) (hx : L[k]? = some x) (hk : k < xs.length) : (L.take k ++ xs.drop k).set k x = L.take (k + 1) ++ xs.drop (k + 1) := by
  have hlt : k < L.length := (List.getElem?_eq_some_iff.1 hx).1
  have hl : (L.take k).length = k := by simp; omega
  rw [List.set_append, if_neg (by omega), hl, Nat.sub_self, List.drop_eq_getElem_cons hk, List.set_cons_zero, List.take_add_one, hx, List.append_assoc]
  rfl

theorem any_snocA {p : α → Bool} {l : List α} {k : Nat} {x : α} (h : (l.take k).any p = false) (hx : l[k]? = some x) (hp : p x = false) : (l.take (k + 1)).any p = false := by
  rw [List.take_add_one, hx, List.any_append, h]; simp [hp]

/-- cells put one after the other -/
def setAll : List Value → Nat → List Value → List Value
  | L, _, [] => L
  | L, p, c :: cs => setAll (L.set p c) (p + 1) cs
theorem setAll_app : ∀ (cs A B : List Value), cs.length ≤ B.length → setAll (A ++ B) A.length cs = A ++ cs ++ B.drop cs.length
  | [], A, B, _ => by simp [setAll]
  | c :: cs, A, [], h => by simp at h
  | c :: cs, A, b :: B, h => by
    have h1 : (A ++ b :: B).set A.length c = (A ++ [c]) ++ B := by
      rw [List.set_append, if_neg (by omega), Nat.sub_self, List.set_cons_zero, List.append_assoc]; rfl
    have h2 : A.length + 1 = (A ++ [c]).length := by simp
    rw [setAll, h1, h2, setAll_app cs _ B (by simpa using h), List.append_assoc A [c] cs]
    simp
/-- one record put into a list of records -/
theorem J_set (hf : ∀ x, (f x).length = m) (l : List α) (k : Nat) (hk : k < l.length) (x : α) : setAll (J f l) (k * m) (f x) = J f (l.set k x) := by
  have h1 : l = l.take k ++ l[k] :: l.drop (k + 1) := by simp
  have h2 : l.set k x = l.take k ++ x :: l.drop (k + 1) := by
    rw [List.set_eq_take_append_cons_drop, if_pos hk]
  have h3 : (J f (l.take k)).length = k * m := by rw [J_length hf, List.length_take, Nat.min_eq_left (by omega)]
  rw [h2, J_append, J_cons]
  conv => lhs; rw [h1, J_append, J_cons, ← h3]
  rw [setAll_app _ _ _ (by rw [List.length_append, hf, hf]; omega), hf, List.drop_left' (hf _), List.append_assoc]

theorem Rd.atS {w : World} {A : Option Addr} {n k : Nat} {xs : List α} (hm : 0 < m) (hf : ∀ x, (f x).length = m) (h : Rd w m A n (J f xs)) (hk : k < n) :
    ∃ b o x, A = some ⟨b, o, none⟩ ∧ b < w.heap.size ∧ Hid (xs[k]? = some x) ∧ ∀ j u, (f x)[j]? = some u → w.cell? ⟨b, o + (k * m + j), none⟩ = some u := by
  obtain ⟨b, o, hA, hb, hc⟩ := h.2 (by omega)
  have hl : xs.length = n := by have := h.1; rw [J_length hf] at this; exact Nat.eq_of_mul_eq_mul_right hm this
  have hx : xs[k]? = some (xs[k]'(by omega)) := List.getElem?_eq_getElem (by omega)
  refine ⟨b, o, _, hA, hb, hx, fun j u hu => hc _ _ ?_⟩
  rw [J_get hf hx (by rw [← hf]; exact (List.getElem?_eq_some_iff.1 hu).1)]
  exact hu
theorem Rd.lenS {w : World} {A : Option Addr} {n : Nat} {xs : List α} (hm : 0 < m) (hf : ∀ x, (f x).length = m) (h : Rd w m A n (J f xs)) : xs.length = n := by
  have := h.1; rw [J_length hf] at this; exact Nat.eq_of_mul_eq_mul_right hm this

/-- the world in which cells are put one after the other -/
def putAll : World → Nat → Nat → List Value → World
  | w, _, _, [] => w
  | w, g, p, c :: cs => putAll (w.setCell ⟨g, p, none⟩ c) g (p + 1) cs
theorem putAll_below {W : World} : ∀ (cs : List Value) {w : World} {B g p : Nat}, Below B W w → B ≤ g → Below B W (putAll w g p cs)
  | [], _, _, _, _, h, _ => h
  | c :: cs, w, B, g, p, h, hg => putAll_below cs (h.setCell hg _) hg
theorem grown_trans {a b c : World} {r : Option Nat} (h : a.grownBy b r) (k : b.grownBy c r) : a.grownBy c r :=
  ⟨k.os.trans h.os, k.tape.trans h.tape, k.output.trans h.output, Nat.le_trans h.size k.size, fun j hj hr => (k.block j (Nat.lt_of_lt_of_le hj h.size) hr).trans (h.block j hj hr)⟩
theorem own_putAll {B n c g size : Nat} {e : TypeId} : ∀ (cs : List Value) (w : World) (xs : List Value) (p : Nat), Own w B ⟨e, size, some ⟨g, 0, none⟩, n, c, xs⟩ →
    Own (putAll w g p cs) B ⟨e, size, some ⟨g, 0, none⟩, n, c, setAll xs p cs⟩ ∧ w.grownBy (putAll w g p cs) (some g)
  | [], w, xs, p, h => ⟨h, World.grownBy.refl _ _⟩
  | x :: cs, w, xs, p, h => by
    have hs := World.ownsRow.stored h p x
    have := own_putAll cs _ _ (p + 1) hs.1
    exact ⟨this.1, grown_trans hs.2 this.2⟩

theorem own_cellS {w : World} {B n c g k j : Nat} {e : TypeId} {xs : List α} {x : α} {u : Value} (hf : ∀ x, (f x).length = m) (h : Own w B ⟨e, m, some ⟨g, 0, none⟩, n, c, J f xs⟩) (hx : xs[k]? = some x) (hk : k < n) (hj : j < m) (hu : (f x)[j]? = some u) :
    w.cell? ⟨g, k * m + j, none⟩ = some u := by
  have h1 : k * m + j < n * m := Nat.lt_of_lt_of_le (Nat.add_lt_add_left hj _) (by rw [← Nat.succ_mul]; exact Nat.mul_le_mul_right m hk)
  rw [World.ownsRow.cellAt h (k * m + j) h1, J_get hf hx hj]
  exact hu

theorem J_set1 (hf : ∀ x, (f x).length = m) (l : List α) (k j : Nat) (hk : k < l.length) (hj : j < m) (u : Value) (x' : α) (h : ∀ x, l[k]? = some x → (f x).set j u = f x') : (J f l).set (k * m + j) u = J f (l.set k x') := by
  have h1 : l = l.take k ++ l[k] :: l.drop (k + 1) := by simp
  have h2 : l.set k x' = l.take k ++ x' :: l.drop (k + 1) := by rw [List.set_eq_take_append_cons_drop, if_pos hk]
  have h3 : (J f (l.take k)).length = k * m := by rw [J_length hf, List.length_take, Nat.min_eq_left (by omega)]
  rw [h2, J_append, J_cons]
  conv => lhs; rw [h1, J_append, J_cons]
  rw [List.set_append, if_neg (by rw [h3]; omega), h3, Nat.add_sub_cancel_left, List.set_append, if_pos (by rw [hf]; exact hj), h _ (List.getElem?_eq_getElem hk)]
theorem own_empty {w : World} {B g : Nat} {e : TypeId} (m : Nat) (h : Box w g e #[]) (hB : B ≤ g) : Own w B ⟨e, m, some ⟨g, 0, none⟩, 0, 0, []⟩ :=
  ⟨by simp, .inr ⟨g, 0, #[], rfl, hB, h.at_, Nat.le_refl _, Nat.zero_le _, by simp, by simp⟩⟩
theorem Box.grown {w w' : World} {g : Nat} {t : TypeId} {cs : Array Value} {r : Option Nat} (h : Box w g t cs) (hg : w.grownBy w' r) (hr : r ≠ some g) : Box w' g t cs := ⟨(hg.block g h.lt (fun e => hr e.symm)).trans h.at_⟩
theorem own_someS {w : World} {B : Nat} {e : TypeId} {A : Option Addr} {n c : Nat} {xs : List Value} (h : Own w B ⟨e, m, A, n, c, xs⟩) (hn : 0 < n) : ∃ g, A = some ⟨g, 0, none⟩ ∧ B ≤ g ∧ g < w.heap.size := by
  rcases h.2 with ⟨_, h0⟩ | ⟨g, cap, cur, hv, hb, hg, _⟩
  · exact absurd h0 (by show n ≠ 0; omega)
  · simp only [Value.slice.injEq] at hv
    exact ⟨g, hv.1, hb, (Array.getElem?_eq_some_iff.1 hg).1⟩
theorem J_one (h : ∀ x, ∀ u ∈ f x, u.oneCell' = true) (l : List α) : ∀ u ∈ J f l, u.oneCell' = true := by
  intro u hu
  obtain ⟨x, _, hx⟩ := List.mem_flatMap.1 hu
  exact h x u hx
theorem below_grown {w0 w w' : World} {g : Nat} (h : Below w0.heap.size w0 w) (hg : w.grownBy w' (some g)) (hB : w0.heap.size ≤ g) : Below w0.heap.size w0 w' :=
  h.grown hg h.size fun k hk => by cases hk; exact hB
theorem size_alloc (w : World) (o : Obj) : (w.alloc o).heap.size = w.heap.size + 1 := by simp
theorem Box.new1 (w : World) (o : Obj) (t : TypeId) (cs : Array Value) : Box ((w.alloc o).alloc (.cells cs t)) (w.heap.size + 1) t cs := by
  have := Box.new (w.alloc o) t cs
  rwa [size_alloc] at this
end
end Go.Proofs.Ytaaocnfbbajphaa
