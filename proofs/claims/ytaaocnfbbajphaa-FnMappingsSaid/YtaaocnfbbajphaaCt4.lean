/- Stores and an append to a table in a variable, besides the reader of choices. No conditions. -/
import Derived.Test.YtaaocnfbbajphaaCs4
import Derived.Test.YtaaocnfbbajphaaLr
namespace Go.Proofs.Ytaaocnfbbajphaa
open Go.RowKit
set_option linter.unusedVariables false
set_option linter.unusedSimpArgs false

/-- a table of the loop -/
structure Sn (D : List Int) (E : List (List REntry)) : Prop where
  d4 : D.length = 4
  e4 : E.length ≤ 4
  l4 : ∀ es ∈ E, es.length = 4
theorem Sn.good {D : List Int} {E : List (List REntry)} (h : Good D E) : Sn D E := ⟨h.len, h.len4, fun es hes => leafB_len (h.leaf es hes)⟩
theorem Sn.sm {D : List Int} {E : List (List REntry)} (h : Sn D E) : Sm D E := ⟨by have := h.d4; omega, by have := h.d4; omega, by have := h.e4; omega, h.l4⟩
theorem mpR_sn {x y : DE} {p f : Int} {wb : Bool} (h : mpR x p f wb = some y) : Sn y.1 y.2 := by
  unfold mpR at h
  split at h
  · rename_i hg
    exact Sn.good (stepM_good (goodB_iff.1 hg) h)
  · cases h
theorem uR_sn {D : List Int} {E : List (List REntry)} {p : Int} {y : DE} (h : uR D E p = some y) : Sn y.1 y.2 := by
  unfold uR at h
  split at h
  · rename_i hk
    obtain ⟨hg, q, rfl, hq, hf⟩ := hasOk_yes hk
    obtain rfl := Option.some.inj h
    obtain ⟨h1, h2, h3⟩ := unm_bd hg hq (fr_dir hf)
    rw [Int.toNat_natCast]
    exact ⟨h1, h2, h3⟩
  · cases h
theorem Sn.eq {T : Tab} {r : Option DE} (hD : T.D = oD r) (hE : T.E = oE r) (hr : r.isSome = true) (h : ∀ y, r = some y → Sn y.1 y.2) : Sn T.D T.E := by
  cases r with
  | none => cases hr
  | some y => rw [hD, hE]; exact h y rfl
theorem sn_new {T : Tab} (h1 : T.D = [-1, -1, -1, -1]) (h2 : T.E = []) : Sn T.D T.E := by rw [h1, h2]; exact ⟨rfl, by decide, fun es h => by cases h⟩
theorem Sn.dirs {D D' : List Int} {E : List (List REntry)} (h : Sn D E) (hl : D'.length = D.length) : Sm D' E := ⟨by have := h.d4; omega, by have := h.d4; omega, by have := h.e4; omega, h.l4⟩
theorem Sn.dir {D : List Int} {E : List (List REntry)} (h : Sn D E) (x : Int) : Sm (D ++ [x]) E := ⟨by have := h.d4; simp; omega, by have := h.d4; simp; omega, by have := h.e4; omega, h.l4⟩
theorem Sn.leaves {D : List Int} {E : List (List REntry)} (h : Sn D E) (es : List REntry) (he : es.length = 4) : Sm D (E ++ [es]) :=
  ⟨by have := h.d4; omega, by have := h.d4; omega, by have := h.e4; simp; omega, fun x hx => by rcases List.mem_append.1 hx with h1 | h1; exact h.l4 x h1; obtain rfl := List.mem_singleton.1 h1; exact he⟩
theorem Sn.leaf {D : List Int} {E : List (List REntry)} (h : Sn D E) (j : Nat) (es : List REntry) (he : es.length = 4) : Sm D (E.set j es) :=
  ⟨by have := h.d4; omega, by have := h.d4; omega, by have := h.e4; simp; omega, fun x hx => by rcases List.mem_or_eq_of_mem_set hx with h1 | rfl; exact h.l4 x h1; exact he⟩

/-- a block of the call's own is written, and the list told anew of the same blocks -/
theorem SepC.ofA {W0 w w' : World} {g k : Nat} {L L' : List Thing} (S : SepC W0 w g k L) {v : Option Nat} (hg : w.grownBy w' v) (hv : ∃ t ∈ L, blk t.A = v) (h : Sep W0 w' L') (hA : L'.map Thing.A = L.map Thing.A) : SepC W0 w' g k L' := by
  obtain ⟨t, ht, rfl⟩ := hv
  obtain ⟨i, hi⟩ := List.getElem?_of_mem ht
  refine ⟨h, S.cu.grown hg (S.far t ht) (fun b hb => blk_own (S.sep.own i t hi) b hb), fun u hu => ?_⟩
  have h1 : u.A ∈ L'.map Thing.A := List.mem_map_of_mem hu
  rw [hA] at h1
  obtain ⟨s, hs, he⟩ := List.mem_map.1 h1
  rw [← he]
  exact S.far s hs
theorem tvT_A (g : Nat) (T T' : Tab) (h1 : T'.Ad = T.Ad) (h2 : T'.Al = T.Al) (h3 : T'.L.map Leaf.A = T.L.map Leaf.A) : (tvT g T').map Thing.A = (tvT g T).map Thing.A := by
  have e : ∀ L : List Leaf, (L.map tL).map Thing.A = L.map Leaf.A := fun L => by rw [List.map_map]; rfl
  show some _ :: T'.Ad :: T'.Al :: (T'.L.map tL).map Thing.A = some _ :: T.Ad :: T.Al :: (T.L.map tL).map Thing.A
  rw [h1, h2, e, e, h3]
/-- a directory written -/
theorem SepC.dirPut {W0 w : World} {g k gT b cd cl : Nat} {P : List Thing} {D : List Int} {Al : Option Addr} {L : List Leaf} (S : SepC W0 w g k (P ++ tvT gT ⟨some ⟨b, 0, none⟩, cd, D, Al, cl, L⟩)) {p : Nat} (hp : p < D.length) (x : Int) :
    (∃ y, w.cell? ⟨b, p, none⟩ = some (.int .i64 y)) ∧ (∀ q, w.frozen? ⟨b, q, none⟩ = false) ∧ SepC W0 (w.setCell ⟨b, p, none⟩ (.int .i64 x)) g k (P ++ tvT gT ⟨some ⟨b, 0, none⟩, cd, D.set p x, Al, cl, L⟩) := by
  have hrow : Own w W0.heap.size (ti (some ⟨b, 0, none⟩) D.length cd D) := by
    have h7 : Sep W0 w (P ++ tvT gT ⟨some ⟨b, 0, none⟩, cd, D, Al, cl, L⟩ ++ []) := by rw [List.append_nil]; exact S.sep
    exact h7.ownMid 1 rfl
  obtain ⟨hy, hfz, hO, hG⟩ := own_store hrow (k := p) hp x
  refine ⟨hy, fun q => World.ownsRow.frozenAt hrow q, S.ofA hG ⟨ti (some ⟨b, 0, none⟩) D.length cd D, by simp [tvT, Tab.things], rfl⟩ (tv_dir S.sep (D.set p x) (by simp) hG (by simpa using hO)) ?_⟩
  rw [List.map_append, List.map_append, tvT_A _ ⟨some ⟨b, 0, none⟩, cd, D, Al, cl, L⟩ ⟨some ⟨b, 0, none⟩, cd, D.set p x, Al, cl, L⟩ rfl rfl rfl]
/-- an entry of a leaf written -/
theorem SepC.leafPut {W0 w : World} {g k gT b j r c : Nat} {P : List Thing} {T : Tab} {es : List REntry} (S : SepC W0 w g k (P ++ tvT gT T)) (hl : T.L[j]? = some ⟨some ⟨b, 0, none⟩, c, es⟩) (h4 : es.length = 4) (hr : r < 4) (e : REntry) :
    (∃ x y, w.cell? ⟨b, r * 2, none⟩ = some (.int .i64 x) ∧ w.cell? ⟨b, r * 2 + 1, none⟩ = some (.bool y)) ∧ (∀ q, w.frozen? ⟨b, q, none⟩ = false) ∧
    SepC W0 ((w.setCell ⟨b, r * 2, none⟩ (.int .i64 e.f0)).setCell ⟨b, r * 2 + 1, none⟩ (.bool e.f1)) g k (P ++ tvT gT ⟨T.Ad, T.cd, T.D, T.Al, T.cl, T.L.set j ⟨some ⟨b, 0, none⟩, c, es.set r e⟩⟩) := by
  have hrow : Own w W0.heap.size (tsEntry (some ⟨b, 0, none⟩) es.length c es) := by
    have h7 : Sep W0 w (P ++ tvT gT T ++ []) := by rw [List.append_nil]; exact S.sep
    exact h7.ownMid (j + 3) (t := tL ⟨some ⟨b, 0, none⟩, c, es⟩) (by simp [tvT, Tab.things, hl])
  rw [h4] at hrow
  obtain ⟨hx, hfz, hO, hG⟩ := own_entry hrow hr e
  refine ⟨hx, hfz, S.ofA hG ⟨tL ⟨some ⟨b, 0, none⟩, c, es⟩, List.mem_append_right _ (List.mem_cons_of_mem _ (List.mem_cons_of_mem _ (List.mem_cons_of_mem _ (List.mem_map_of_mem (List.mem_of_getElem? hl))))), rfl⟩ (tv_put S.sep hl (es.set r e) (by simp) hG (by
    show World.ownsRow _ _ _ _ (.slice _ es.length c) es.length _
    rw [h4]; exact hO)) ?_⟩
  rw [List.map_append, List.map_append, tvT_A gT T ⟨T.Ad, T.cd, T.D, T.Al, T.cl, T.L.set j ⟨some ⟨b, 0, none⟩, c, es.set r e⟩⟩ rfl rfl ?_]
  show (T.L.set j _).map Leaf.A = T.L.map Leaf.A
  rw [List.map_set]
  exact set_self_eq (by rw [List.getElem?_map, hl]; rfl)
/-- one leaf more -/
theorem SepC.leafApp {W0 w w1 w3 : World} {g k gT c' : Nat} {P : List Thing} {T : Tab} {A' : Option Addr} (S : SepC W0 w g k (P ++ tvT gT T)) (l : Leaf) (hb1 : Below w.heap.size w w1) (ho : Own w1 w.heap.size (tL l)) (o : Obj) (hg : (w1.alloc o).grownBy w3 (blk T.Al))
    (hat : blk A' = blk T.Al ∨ blk A' = some (w1.alloc o).heap.size) (hown3 : w3.ownsRow W0.heap.size 71 1 (.slice A' (T.L.length + 1) c') (T.L.length + 1) (T.L.map Leaf.cell ++ [l.cell])) :
    (∀ i, w3.cell? ⟨gT, i, none⟩ = #[.slice T.Ad T.D.length T.cd, .slice T.Al T.L.length T.cl][i]?) ∧ (∀ i, w3.frozen? ⟨gT, i, none⟩ = false) ∧
    SepC W0 (w3.setCell ⟨gT, 1, none⟩ (.slice A' (T.L.length + 1) c')) g k (P ++ tvT gT ⟨T.Ad, T.cd, T.D, A', c', T.L ++ [l]⟩) := by
  have S2 := (S.new hb1 ho).below (below_alloc w1 o)
  have S3 : SepC W0 (w1.alloc o) g k (P ++ ([bx 27 2 gT [.slice T.Ad T.D.length T.cd, .slice T.Al T.L.length T.cl], ti T.Ad T.D.length T.cd T.D, tR T.Al T.L.length T.cl T.L] ++ (T.L ++ [l]).map tL)) := by
    rw [List.map_append, ← List.append_assoc [_, _, _], ← List.append_assoc P]
    exact S2
  have hi : (P ++ ([bx 27 2 gT [.slice T.Ad T.D.length T.cd, .slice T.Al T.L.length T.cl], ti T.Ad T.D.length T.cd T.D, tR T.Al T.L.length T.cl T.L] ++ (T.L ++ [l]).map tL))[P.length + 2]? = some (tR T.Al T.L.length T.cl T.L) := by
    rw [List.getElem?_append_right (by omega), Nat.add_sub_cancel_left]; rfl
  have S4 := S3.app (P.length + 2) (t' := tR A' (T.L.length + 1) c' (T.L ++ [l])) hi hg hat (by
    show w3.ownsRow _ _ _ _ _ ((T.L ++ [l]).map Leaf.cell)
    rw [List.map_append]; exact hown3)
  rw [List.set_append_right _ _ (by omega), Nat.add_sub_cancel_left] at S4
  have hi2 : (P ++ ([bx 27 2 gT [.slice T.Ad T.D.length T.cd, .slice T.Al T.L.length T.cl], ti T.Ad T.D.length T.cd T.D, tR T.Al T.L.length T.cl T.L] ++ (T.L ++ [l]).map tL).set 2 (tR A' (T.L.length + 1) c' (T.L ++ [l])))[P.length]? = some (bx 27 2 gT [.slice T.Ad T.D.length T.cd, .slice T.Al T.L.length T.cl]) := by
    rw [List.getElem?_append_right (by omega), Nat.sub_self]; rfl
  have hbx := S4.sep.own _ _ hi2
  have hs := World.ownsRow.stored hbx 1 (.slice A' (T.L.length + 1) c')
  have S6 := S4.write P.length hi2 hs.2 _ hs.1
  refine ⟨fun i => own_box hbx i, own_free hbx, ?_⟩
  rw [List.set_append_right _ _ (by omega), Nat.sub_self] at S6
  rw [tvT_rows, rowsT]
  have e : (T.L ++ [l]).length = T.L.length + 1 := by simp
  rw [e]
  exact S6
theorem own_I {w : World} {B n c : Nat} {A : Option Addr} {D : List Int} {x : Int} (h : w.ownsRow B 3 1 (.slice A (n + 1) c) (n + 1) (I D ++ [.int .i64 x])) : Own w B (ti A (n + 1) c (D ++ [x])) := by
  have e : I (D ++ [x]) = I D ++ [.int .i64 x] := by simp [I]
  show w.ownsRow B _ 1 _ _ (I (D ++ [x]))
  rw [e]; exact h
/-- one of some numbers that lie in a block -/
theorem among_box {W : World} {B g k : Nat} (lo hi : Int) (n b : Nat) (cs : Array Value) (t : TypeId) (X : Box W b t cs) (h : Cu W B g k) (hb : b ≠ g) (hk : k ≤ 900000) (hn0 : 1 ≤ n) (hn1 : n ≤ 1000) (hn : n ≤ cs.size) (c : Nat) (hs : intsB lo hi cs.toList = true) :
    Calls Try.prog 74 #[.pointer (some ⟨g, 0, none⟩), .slice (some ⟨b, 0, none⟩) n c] W fun e w' => ∃ q : Int, (lo ≤ q ∧ q ≤ hi) ∧ e = .returned (.int .i64 q) ∧ (∃ k', k' ≤ k + 2 ∧ Cu w' B g k') ∧ Far g W w' :=
  among_any (fun q => lo ≤ q ∧ q ≤ hi) b 0 n c h hk hn0 hn1 hb X.lt (fun i hi => by
    obtain ⟨q, hq, he⟩ := ints_at hs (i := i) (by rw [Array.length_toList]; omega)
    refine ⟨q, hq, ?_⟩
    rw [Nat.zero_add, X.cell i, ← Array.getElem?_toList]
    exact he)
theorem kcellG {w w' : World} {b o : Nat} {v : Value} (h : Below w.heap.size w w') (hb : b < w.heap.size) (hc : w.cell? ⟨b, o, none⟩ = some v) : w'.cell? ⟨b, o, none⟩ = some v := (h.cell (p := ⟨b, o, none⟩) hb).trans hc
theorem kallocG {w : World} {b o : Nat} {v : Value} {ob : Obj} (hc : w.cell? ⟨b, o, none⟩ = some v) : (w.alloc ob).cell? ⟨b, o, none⟩ = some v :=
  kcellG (below_alloc w ob) (by have := World.block_lt_of_cell? _ _ hc; exact this) hc
theorem kdrewG {w : World} {b o : Nat} {v : Value} (hc : w.cell? ⟨b, o, none⟩ = some v) : w.drew.cell? ⟨b, o, none⟩ = some v := hc
theorem ksetG {w : World} {b o g p : Nat} {v u : Value} (h : b ≠ g) (hc : w.cell? ⟨b, o, none⟩ = some v) : (w.setCell ⟨g, p, none⟩ u).cell? ⟨b, o, none⟩ = some v := by
  rw [← hc]; exact World.cell?_of_block (w := w) (heap_setCell_other w ⟨g, p, none⟩ b u h)
end Go.Proofs.Ytaaocnfbbajphaa
