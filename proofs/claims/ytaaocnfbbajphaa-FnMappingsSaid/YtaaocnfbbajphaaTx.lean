/- Bounds of a table; groups of things opened; IsTable and l4Page in the reference. No conditions but bounds. -/
import Derived.Test.YtaaocnfbbajphaaTu
import Derived.Test.YtaaocnfbbajphaaTv
import Derived.Test.YtaaocnfbbajphaaTi
namespace Go.Proofs.Ytaaocnfbbajphaa
open Go.RowKit
set_option linter.unusedVariables false
set_option linter.unusedSimpArgs false

/-- a table that is not too large -/
structure Bd (T : Tab) : Prop where
  d : T.D.length ≤ 1048576
  n : T.L.length ≤ 1048576
  l : ∀ l ∈ T.L, l.es.length ≤ 1048576
  s : sumL T.L ≤ 1048576
theorem Bd.of_sz {T : Tab} (h : 0 ≤ lessT 1048576 T) : Bd T := ⟨(lessT_ok h).1, (lessT_ok h).2.1, (lessT_ok h).2.2.1, (lessT_ok h).2.2.2⟩
theorem sumL_E (T : Tab) : sumL T.L = (T.E.map List.length).sum := by simp [sumL, Tab.E, List.map_map]; rfl
theorem leaf_E {T : Tab} {b : Nat} : (∀ l ∈ T.L, l.es.length ≤ b) ↔ ∀ es ∈ T.E, es.length ≤ b := by
  constructor
  · intro h es hes
    obtain ⟨l, hl, rfl⟩ := List.mem_map.1 hes
    exact h l hl
  · intro h l hl
    exact h _ (List.mem_map.2 ⟨l, hl, rfl⟩)
theorem Bd.of_eq {T T' : Tab} (h : Bd T) (hD : T'.D = T.D) (hE : T'.E = T.E) : Bd T' := by
  refine ⟨by rw [hD]; exact h.d, ?_, leaf_E.2 (by rw [hE]; exact leaf_E.1 h.l), by rw [sumL_E, hE, ← sumL_E]; exact h.s⟩
  rw [← Tab.E_len, hE, Tab.E_len]; exact h.n
theorem sum_four : ∀ (E : List (List REntry)), (∀ es ∈ E, es.length = 4) → (E.map List.length).sum = 4 * E.length
  | [], _ => rfl
  | x :: E, h => by
    have h1 := h x (by simp)
    have h2 := sum_four E (fun es hes => h es (by simp [hes]))
    simp only [List.map_cons, List.sum_cons, h1, h2, List.length_cons]; omega
theorem Bd.good {T : Tab} (h : Good T.D T.E) : Bd T := by
  have h4 : ∀ es ∈ T.E, es.length = 4 := fun es hes => leafB_len (h.leaf es hes)
  have hl := h.len4
  have hs := sum_four T.E h4
  have hd := h.len
  rw [Tab.E_len] at hl
  rw [Tab.E_len] at hs
  exact ⟨by omega, by omega, leaf_E.2 (fun es hes => by have := h4 es hes; omega), by rw [sumL_E]; omega⟩
theorem Bd.nil_ : Bd tab0 := ⟨by decide, by decide, by simp, by decide⟩
theorem nxT_bd {T : Tab} (h : Bd T) {m : Int} (h0 : 0 ≤ m) (h1 : m ≤ 10000000) : 0 ≤ nxT m T ∧ nxT m T ≤ m + 4000000 := by
  have := h.d
  have := h.s
  unfold nxT nxL
  omega

theorem GS.open_ {W0 w : World} {G : List (List Thing)} (S : GS W0 w G) (i : Nat) {g : List Thing} (h : G[i]? = some g) :
    ∃ P Q, Sep W0 w (P ++ g ++ Q) ∧ ∀ w' g', Sep W0 w' (P ++ g' ++ Q) → GS W0 w' (G.set i g') := by
  obtain ⟨P, Q, h1, h2⟩ := flat_at h
  exact ⟨P, Q, by rw [← h1]; exact S, fun w' g' S' => GS.write i h2 S'⟩
theorem GS.cap {W0 w : World} {G : List (List Thing)} (S : GS W0 w G) (i : Nat) {T : Tab} (h : G[i]? = some T.things) : T.D.length ≤ T.cd ∧ T.cd ≤ maxLen := ti_cap ((S.at_ i h).own 0 _ rfl)
theorem things0 (w : World) : Sep w w tab0.things := by
  have := ((Sep.start w).new (Below.refl _ _) (own_nil w _)).new (t := tR none 0 0 []) (Below.refl _ _) (World.ownsRow_nil _ _ _ _)
  exact this
theorem things0_below {w w' : World} (hb : Below w.heap.size w w') : Sep w w' tab0.things := (things0 w).below hb

theorem s_IsTable_eq (T : Tab) (w : World) (hr : RdT w T) (B : Bd T) (hcap : T.D.length ≤ T.cd ∧ T.cd ≤ maxLen) (r : Bool) (hR : goodB T.D T.E = r) :
    Calls Try.prog 11 #[tabV T] w fun e w' => e = .returned (.bool r) ∧ Below w.heap.size w w' := by
  have HR := Lib.hid hR
  have HC := Lib.hid hcap
  clear hR hcap
  go_enter Try.func11, Try.ntmps11
  go_wp2_with fail
  refine (l4Good_eq T _ (hr.keep (below_alloc _ _)) B.d B.n B.l HC.out r HR.out).mono ?_
  rintro e w1 ⟨rfl, hb⟩
  go_wp2
  go_ret
  exact ⟨rfl, below_next (below_alloc _ _) hb⟩
set_option maxHeartbeats 400000 in
theorem l4Page_eq (T : Tab) (p : Int) (w : World) (hr : RdT w T) (B : Bd T) (hcap : T.D.length ≤ T.cd ∧ T.cd ≤ maxLen) (r : Bool) (hR : (goodB T.D T.E && inB p 0 15) = r) :
    Calls Try.prog 40 #[tabV T, .int .i64 p] w fun e w' => e = .returned (.bool r) ∧ Below w.heap.size w w' := by
  have HC := Lib.hid hcap
  clear hcap
  cases h1 : goodB T.D T.E
  all_goals have H1 := Lib.hid h1
  all_goals rw [h1] at hR
  all_goals clear h1
  · obtain rfl : false = r := hR
    go_enter Try.func40, Try.ntmps40
    go_wp2_with fail
    refine (l4Good_eq T _ (hr.keep (below_alloc _ _)) B.d B.n B.l HC.out _ H1.out).mono ?_
    rintro e w1 ⟨rfl, hb⟩
    go_wp2
    go_ret
    exact ⟨rfl, below_next (below_alloc _ _) hb⟩
  · rw [Bool.true_and] at hR
    have HR := Lib.hid hR
    clear hR
    go_enter Try.func40, Try.ntmps40
    go_wp2_with fail
    refine (l4Good_eq T _ (hr.keep (below_alloc _ _)) B.d B.n B.l HC.out _ H1.out).mono ?_
    rintro e w1 ⟨rfl, hb⟩
    go_wp2_with fail
    refine (l1In_eq HR.out _).mono ?_
    rintro e w2 ⟨rfl, rfl⟩
    go_wp2
    go_ret
    exact ⟨rfl, below_next (below_alloc _ _) hb⟩
theorem s_IsTable_any (T : Tab) (w : World) (hr : RdT w T) (B : Bd T) (hcap : T.D.length ≤ T.cd ∧ T.cd ≤ maxLen) (D : List Int) (E : List (List REntry)) (hD : T.D = D) (hE : T.E = E) :
    Calls Try.prog 11 #[tabV T] w fun e w' => e = .returned (.bool (goodB D E)) ∧ Below w.heap.size w w' := s_IsTable_eq T w hr B hcap _ (by rw [hD, hE])
theorem i_IsTable_any (T : Tab) (w : World) (hr : RdT w T) (B : Bd T) (hcap : T.D.length ≤ T.cd ∧ T.cd ≤ maxLen) (D : List Int) (E : List (List REntry)) (hD : T.D = D) (hE : T.E = E) :
    Calls Try.prog 10 #[tabV T] w fun e w' => e = .returned (.bool (goodB D E)) ∧ Below w.heap.size w w' := i_IsTable_eq T w hr B.d B.n B.l _ (by rw [hD, hE])
end Go.Proofs.Ytaaocnfbbajphaa
