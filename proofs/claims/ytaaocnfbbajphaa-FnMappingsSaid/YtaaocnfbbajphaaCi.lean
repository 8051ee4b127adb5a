/- Contract of the reader of choices: among. What the reader leaves of things of the call's own. -/
import Derived.Test.YtaaocnfbbajphaaCu0
import Derived.Test.YtaaocnfbbajphaaInts
namespace Go.Proofs.Ytaaocnfbbajphaa
open Go.RowKit
set_option linter.unusedVariables false
set_option linter.unusedSimpArgs false

theorem Cu.lt {w : World} {B g k : Nat} (h : Cu w B g k) : g < w.heap.size := by
  obtain ⟨_, _, _, _, _, hx, _⟩ := h
  exact hx.lt
theorem Cu.less {w : World} {B B' g k : Nat} (h : Cu w B g k) (hB : B' ≤ B) (hC : ∀ b, b < B → b < B') : Cu w B' g k := by
  obtain ⟨h1, A, n, c, s, hx, h2, h3⟩ := h
  refine ⟨Nat.le_trans hB h1, A, n, c, s, hx, h2, fun hn => ?_⟩
  obtain ⟨b, o, e, hb, r⟩ := h3 hn
  exact ⟨b, o, e, hC b hb, r⟩
set_option maxHeartbeats 1000000 in
theorem among_any {w : World} {B g k : Nat} (P : Int → Prop) (b o n c : Nat) (h : Cu w B g k) (hk : k ≤ 900000) (hn0 : 1 ≤ n) (hn : n ≤ 1000) (hbg : b ≠ g) (hbw : b < w.heap.size)
    (hl : ∀ i, i < n → ∃ q, P q ∧ w.cell? ⟨b, o + i, none⟩ = some (.int .i64 q)) :
    Calls Try.prog 74 #[.pointer (some ⟨g, 0, none⟩), .slice (some ⟨b, o, none⟩) n c] w fun e w' => ∃ q, P q ∧ e = .returned (.int .i64 q) ∧ (∃ k', k' ≤ k + 2 ∧ Cu w' B g k') ∧ Far g w w' := by
  have HCu := Lib.hid h
  have HL := Lib.hid hl
  clear h hl
  go_enter Try.func74, Try.ntmps74
  go_wp2_with fail
  refine (pick_any (n : Int) HCu.out hk (by omega) (by omega)).mono ?_
  rintro e w1 ⟨x, ⟨hx0, hx1, hx2⟩, rfl, hc1, hf⟩
  have HC1 := Lib.hid hc1
  have hx3 := hx1 (by omega)
  clear hc1 hx1
  obtain ⟨j, rfl⟩ := Int.eq_ofNat_of_zero_le hx0
  obtain ⟨q, hq, hcell0⟩ := HL.out j (by omega)
  have hcell := (hf.cell hbg hbw (o + j)).trans hcell0
  clear hcell0
  have HF := Lib.hid hf
  have HQ := Lib.hid hq
  clear hf hq
  go_wp2
  go_ret
  exact ⟨q, HQ.out, rfl, HC1.out, HF.out⟩
/-- cells that hold numbers from lo to hi -/
def intsB (lo hi : Int) (cs : List Value) : Bool := cs.all fun v => match v with | .int .i64 q => decide (lo ≤ q ∧ q ≤ hi) | _ => false
theorem ints_at {lo hi : Int} {cs : List Value} (h : intsB lo hi cs = true) {i : Nat} (hi' : i < cs.length) : ∃ q : Int, (lo ≤ q ∧ q ≤ hi) ∧ cs[i]? = some (.int .i64 q) := by
  have h1 := List.all_eq_true.1 h cs[i] (List.getElem_mem hi')
  rw [List.getElem?_eq_getElem hi']
  split at h1
  · rename_i q hq
    exact ⟨q, of_decide_eq_true h1, by rw [hq]⟩
  · cases h1
/-- one of some numbers that are laid for the call -/
theorem among_lit {w : World} {B g k : Nat} (lo hi : Int) (n : Nat) (cs : Array Value) (t : TypeId) (h : Cu w B g k) (hk : k ≤ 900000) (hn : cs.size = n) (hn0 : 1 ≤ n) (hn1 : n ≤ 1000) (hs : intsB lo hi cs.toList = true) :
    Calls Try.prog 74 #[.pointer (some ⟨g, 0, none⟩), .slice (some ⟨w.heap.size, 0, none⟩) n n] (w.alloc (.cells cs t)) fun e w' => ∃ q : Int, (lo ≤ q ∧ q ≤ hi) ∧ e = .returned (.int .i64 q) ∧ (∃ k', k' ≤ k + 2 ∧ Cu w' B g k') ∧ Far g w w' := by
  have hg := h.lt
  refine (among_any (fun q => lo ≤ q ∧ q ≤ hi) w.heap.size 0 n n (h.below (below_alloc w _)) hk hn0 hn1 (by omega) ((Box.new w t cs).lt) (fun i hi => ?_)).mono ?_
  · obtain ⟨q, hq, he⟩ := ints_at hs (i := i) (by simpa [hn] using hi)
    refine ⟨q, hq, ?_⟩
    rw [Nat.zero_add, (Box.new w t cs).cell i, ← Array.getElem?_toList]
    exact he
  · rintro e w' ⟨q, hq, he, hc, hf⟩
    exact ⟨q, hq, he, hc, (Far.of_below (below_alloc w _)).trans hf⟩
/-- a reader of a code, fresh -/
theorem Cu.new {w : World} {A : Option Addr} {n c : Nat} (h : Code w w.heap.size A n) : Cu (w.alloc (.cells #[.slice A n c, .int .i64 0, .int .u64 0] 60)) w.heap.size w.heap.size 0 :=
  ⟨Nat.le_refl _, A, n, c, 0, Box.new w _ _, h.far (Nat.le_refl _) (Far.of_below (below_alloc w _))⟩
/-- a reader and things of the call's own, apart from it -/
structure SepC (W0 w : World) (g k : Nat) (L : List Thing) : Prop where
  sep : Sep W0 w L
  cu : Cu w W0.heap.size g k
  far : ∀ t ∈ L, blk t.A ≠ some g
theorem own_far {w w' : World} {B g : Nat} {t : Thing} (h : Own w B t) (hf : Far g w w') (hg : blk t.A ≠ some g) : Own w' B t := by
  refine ⟨h.1, ?_⟩
  rcases h.2 with h2 | ⟨b, cap, cur, hv, hB, hh, h3⟩
  · exact .inl h2
  · refine .inr ⟨b, cap, cur, hv, hB, ?_, h3⟩
    have hA : t.A = some ⟨b, 0, none⟩ := by injection hv
    rw [hf.2 b (fun e => hg (by rw [hA, e]; rfl)) ((Array.getElem?_eq_some_iff.1 hh).1)]
    exact hh
theorem SepC.step {W0 w w' : World} {g k k' : Nat} {L : List Thing} (S : SepC W0 w g k L) (hc : Cu w' W0.heap.size g k') (hf : Far g w w') : SepC W0 w' g k' L := by
  have hB := S.cu.1
  have hw := S.sep.bel.size
  exact ⟨⟨S.sep.bel.trans (hf.below hB hw), fun i t h => own_far (S.sep.own i t h) hf (S.far t (List.mem_of_getElem? h)), S.sep.apart⟩, hc, S.far⟩
theorem SepC.sub {W0 w : World} {g k : Nat} {L M : List Thing} (S : SepC W0 w g k L) (h : Sep W0 w M) (hM : ∀ t ∈ M, t ∈ L) : SepC W0 w g k M := ⟨h, S.cu, fun t ht => S.far t (hM t ht)⟩
end Go.Proofs.Ytaaocnfbbajphaa
