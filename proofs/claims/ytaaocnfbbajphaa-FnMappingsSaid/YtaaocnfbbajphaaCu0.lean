/- Contracts of the reader of choices: next, pick, one. The code of at most 65536 bytes. -/
import Derived.Test.YtaaocnfbbajphaaRows
import Derived.Test.YtaaocnfbbajphaaSl
namespace Go.Proofs.Ytaaocnfbbajphaa
open Go.RowKit
set_option linter.unusedVariables false
set_option linter.unusedSimpArgs false

/-- the code: bytes below B -/
def Code (w : World) (B : Nat) (A : Option Addr) (n : Nat) : Prop :=
  n ≤ 65536 ∧ (0 < n → ∃ b o, A = some ⟨b, o, none⟩ ∧ b < B ∧ b < w.heap.size ∧ ∀ i, i < n → ∃ u : UInt8, w.cell? ⟨b, o + i, none⟩ = some (.int .u8 u.toNat))

theorem and_bd (z : Int) : 0 ≤ wrap64 (bits .and .u64 z 255) ∧ wrap64 (bits .and .u64 z 255) ≤ 255 := by
  have h : bits .and .u64 z 255 = (((BitVec.ofInt 64 z).toNat &&& 255 : Nat) : Int) := by
    have e : (BitVec.ofInt 64 (255 : Int)).toNat = 255 := by decide
    have hx : (BitVec.ofInt 64 z).toNat &&& 255 ≤ 255 := Nat.and_le_right
    show IntKind.u64.wrap ((BitVec.ofInt 64 z &&& BitVec.ofInt 64 (255 : Int)).toNat : Int) = _
    rw [BitVec.toNat_and, e]
    show (((BitVec.ofInt 64 z).toNat &&& 255 : Nat) : Int) % 18446744073709551616 = _
    omega
  have hx : (BitVec.ofInt 64 z).toNat &&& 255 ≤ 255 := Nat.and_le_right
  rw [h]
  unfold wrap64
  omega
set_option maxHeartbeats 1000000 in
theorem next_in (w : World) (B g n c at_ b o : Nat) (u : UInt8) (seed : Int) (hx : Box w g 60 #[.slice (some ⟨b, o, none⟩) n c, .int .i64 at_, .int .u64 seed]) (hat : at_ ≤ 1000000) (hn : n ≤ 65536) (hlt : at_ < n) (hbg : b ≠ g) (hbw : b < w.heap.size)
    (hu : w.cell? ⟨b, o + at_, none⟩ = some (.int .u8 u.toNat)) :
    Calls Try.prog 88 #[.pointer (some ⟨g, 0, none⟩)] w fun e w' => e = .returned (.int .i64 u.toNat) ∧ ∃ (s : Int) (a b : Nat), w' = (((w.drewN a).setCell ⟨g, 1, none⟩ (.int .i64 (at_ + 1))).setCell ⟨g, 2, none⟩ (.int .u64 s)).drewN b := by
  have hc := hx.cell
  have hfz := hx.free
  have hu1 := u.toNat_lt
  have h1 : (at_ : Int) < (n : Int) := by omega
  go_enter Try.func88, Try.ntmps88
  go_wp2_with fail
  go_quiet (fail)
  go_wp2_with fail
  go_quiet (fail)
  go_wp2_with fail
  go_quiet (fail)
  go_wp2
  go_ret
  exact ⟨rfl, _, _, _, rfl⟩
set_option maxHeartbeats 1000000 in
theorem next_out (w : World) (g n c k : Nat) (A : Option Addr) (seed : Int) (hx : Box w g 60 #[.slice A n c, .int .i64 k, .int .u64 seed]) (hat : k ≤ 1000000) (hn : n ≤ 65536) (hlt : ¬ k < n) :
    Calls Try.prog 88 #[.pointer (some ⟨g, 0, none⟩)] w fun e w' => ∃ x : Int, (0 ≤ x ∧ x ≤ 255) ∧ e = .returned (.int .i64 x) ∧ ∃ (s : Int) (a b : Nat), w' = (((w.drewN a).setCell ⟨g, 1, none⟩ (.int .i64 (k + 1))).setCell ⟨g, 2, none⟩ (.int .u64 s)).drewN b := by
  have hc := hx.cell
  have hfz := hx.free
  have h1 : ¬ (k : Int) < (n : Int) := by omega
  go_enter Try.func88, Try.ntmps88
  go_wp2_with fail
  go_quiet (fail)
  go_wp2_with fail
  go_quiet (fail)
  go_wp2
  go_ret
  exact ⟨_, and_bd _, rfl, _, _, _, rfl⟩

/-- nothing but the block g has changed -/
def Far (g : Nat) (w w' : World) : Prop := Below 0 w w' ∧ ∀ b, b ≠ g → b < w.heap.size → w'.heap[b]? = w.heap[b]?
theorem Far.below {g B : Nat} {w w' : World} (h : Far g w w') (hB : B ≤ g) (hw : B ≤ w.heap.size) : Below B w w' :=
  ⟨h.1.os, h.1.tape, h.1.output, h.1.size, fun b hb => h.2 b (by omega) (by omega)⟩
theorem Far.refl (g : Nat) (w : World) : Far g w w := ⟨Below.refl _ _, fun _ _ _ => rfl⟩
theorem Far.trans {g : Nat} {a b c : World} (h : Far g a b) (k : Far g b c) : Far g a c :=
  ⟨h.1.trans k.1, fun x hx hl => (k.2 x hx (Nat.lt_of_lt_of_le hl h.1.size)).trans (h.2 x hx hl)⟩
theorem Far.of_below {g : Nat} {w w' : World} (h : Below w.heap.size w w') : Far g w w' := ⟨h.mono (Nat.zero_le _), fun b _ hb => h.block b hb⟩
theorem Far.cell {g : Nat} {w w' : World} (h : Far g w w') {b : Nat} (hb : b ≠ g) (hl : b < w.heap.size) (i : Nat) : w'.cell? ⟨b, i, none⟩ = w.cell? ⟨b, i, none⟩ := World.cell?_of_block (w := w) (h.2 b hb hl)
theorem far_two (w : World) (g a b i j : Nat) (u v : Value) : Far g w ((((w.drewN a).setCell ⟨g, i, none⟩ u).setCell ⟨g, j, none⟩ v).drewN b) := by
  refine ⟨below_drewN (((below_drewN (Below.refl _ _) a).setCell (Nat.zero_le _) u).setCell (Nat.zero_le _) v) b, fun x hx _ => ?_⟩
  show (((w.drewN a).setCell ⟨g, i, none⟩ u).setCell ⟨g, j, none⟩ v).heap[x]? = _
  rw [heap_setCell_other _ _ x v hx, heap_setCell_other _ _ x u hx]
  rfl
/-- the reader's variable g, of the call's own: it stands at k -/
def Cu (w : World) (B g k : Nat) : Prop := B ≤ g ∧ ∃ A n c s, Box w g 60 #[.slice A n c, .int .i64 k, .int .u64 s] ∧ Code w B A n
theorem Code.far {w w' : World} {B g n : Nat} {A : Option Addr} (h : Code w B A n) (hB : B ≤ g) (hf : Far g w w') : Code w' B A n := by
  refine ⟨h.1, fun hn => ?_⟩
  obtain ⟨b, o, rfl, h1, h2, h3⟩ := h.2 hn
  refine ⟨b, o, rfl, h1, Nat.lt_of_lt_of_le h2 hf.1.size, fun i hi => ?_⟩
  rw [hf.cell (by omega) h2]
  exact h3 i hi
theorem Cu.below {w w' : World} {B g k : Nat} (h : Cu w B g k) (hb : Below w.heap.size w w') : Cu w' B g k := by
  obtain ⟨hB, A, n, c, s, hx, hC⟩ := h
  exact ⟨hB, A, n, c, s, hx.keep hb, hC.far hB (Far.of_below hb)⟩
theorem Cu.next {w : World} {B g k a b n c : Nat} {A : Option Addr} {s s' : Int} (hB : B ≤ g) (hx : Box w g 60 #[.slice A n c, .int .i64 k, .int .u64 s]) (hC : Code w B A n) :
    Cu ((((w.drewN a).setCell ⟨g, 1, none⟩ (.int .i64 (k + 1))).setCell ⟨g, 2, none⟩ (.int .u64 s')).drewN b) B g (k + 1) :=
  ⟨hB, A, n, c, s', ⟨(((⟨hx.at_⟩ : Box (w.drewN a) g 60 #[.slice A n c, .int .i64 k, .int .u64 s]).put 1 _).put 2 _).at_⟩, hC.far hB (far_two w g a b 1 2 _ _)⟩

theorem next_any {w : World} {B g k : Nat} (h : Cu w B g k) (hk : k ≤ 1000000) :
    Calls Try.prog 88 #[.pointer (some ⟨g, 0, none⟩)] w fun e w' => ∃ x : Int, (0 ≤ x ∧ x ≤ 255) ∧ e = .returned (.int .i64 x) ∧ Cu w' B g (k + 1) ∧ Far g w w' := by
  obtain ⟨hB, A, n, c, s, hx, hC⟩ := h
  by_cases hlt : k < n
  · obtain ⟨b, o, rfl, h1, h2, h3⟩ := hC.2 (by omega)
    obtain ⟨u, hu⟩ := h3 k hlt
    refine (next_in w B g n c k b o u s hx hk hC.1 hlt (by omega) h2 hu).mono ?_
    rintro e w' ⟨rfl, s', a, b', rfl⟩
    exact ⟨_, ⟨by omega, by have := u.toNat_lt; omega⟩, rfl, Cu.next hB hx hC, far_two w g _ _ 1 2 _ _⟩
  · refine (next_out w g n c k A s hx hk hC.1 hlt).mono ?_
    rintro e w' ⟨x, hxb, rfl, s', a, b', rfl⟩
    exact ⟨x, hxb, rfl, Cu.next hB hx hC, far_two w g _ _ 1 2 _ _⟩

set_option maxHeartbeats 1000000 in
theorem pick_any {w : World} {B g k : Nat} (m : Int) (h : Cu w B g k) (hk : k ≤ 900000) (hm0 : -1000000 ≤ m) (hm : m ≤ 1000000) :
    Calls Try.prog 76 #[.pointer (some ⟨g, 0, none⟩), .int .i64 m] w fun e w' => ∃ x : Int, (0 ≤ x ∧ (1 ≤ m → x < m) ∧ x < 1000000) ∧ e = .returned (.int .i64 x) ∧ (∃ k', k' ≤ k + 2 ∧ Cu w' B g k') ∧ Far g w w' := by
  have HCu := Lib.hid h
  clear h
  by_cases h1 : m ≤ 1
  · go_enter Try.func76, Try.ntmps76
    go_wp2
    go_ret
    exact ⟨0, ⟨by omega, by omega, by omega⟩, rfl, ⟨k, by omega, HCu.out⟩, Far.refl _ _⟩
  by_cases h2 : m ≤ 200
  · have h3 : ¬ 200 < m := by omega
    go_enter Try.func76, Try.ntmps76
    go_wp2_with fail
    refine (next_any HCu.out (by omega)).mono ?_
    rintro e w1 ⟨x, ⟨hx0, hx1⟩, rfl, hc1, hf⟩
    have HC1 := Lib.hid hc1
    clear hc1
    go_wp2
    go_ret
    refine ⟨_, ?_, rfl, ⟨k + 1, by omega, HC1.out⟩, hf⟩
    have e1 := Int.emod_nonneg x (show m ≠ 0 by omega)
    have e2 := Int.emod_lt_of_pos x (show 0 < m by omega)
    exact ⟨e1, fun _ => e2, by omega⟩
  · have h3 : 200 < m := by omega
    go_enter Try.func76, Try.ntmps76
    go_wp2_with fail
    refine (next_any HCu.out (by omega)).mono ?_
    rintro e w1 ⟨x, ⟨hx0, hx1⟩, rfl, hc1, hf⟩
    have HC1 := Lib.hid hc1
    clear hc1
    go_wp2_with fail
    refine (next_any HC1.out (by omega)).mono ?_
    rintro e w2 ⟨y, ⟨hy0, hy1⟩, rfl, hc2, hf2⟩
    have HC2 := Lib.hid hc2
    clear hc2
    go_wp2
    go_ret
    refine ⟨_, ?_, rfl, ⟨k + 2, by omega, HC2.out⟩, hf.trans hf2⟩
    have e1 := Int.emod_nonneg (x * 256 + y) (show m ≠ 0 by omega)
    have e2 := Int.emod_lt_of_pos (x * 256 + y) (show 0 < m by omega)
    exact ⟨e1, fun _ => e2, by omega⟩

set_option maxHeartbeats 1000000 in
theorem one_any {w : World} {B g k : Nat} (m : Int) (h : Cu w B g k) (hk : k ≤ 900000) (hm0 : -1000000 ≤ m) (hm : m ≤ 1000000) :
    Calls Try.prog 39 #[.pointer (some ⟨g, 0, none⟩), .int .i64 m] w fun e w' => ∃ b : Bool, e = .returned (.bool b) ∧ (∃ k', k' ≤ k + 2 ∧ Cu w' B g k') ∧ Far g w w' := by
  have HCu := Lib.hid h
  clear h
  go_enter Try.func39, Try.ntmps39
  go_wp2_with fail
  refine (pick_any m HCu.out hk hm0 hm).mono ?_
  rintro e w1 ⟨x, hx, rfl, hc1, hf⟩
  have HC1 := Lib.hid hc1
  clear hc1 hx
  go_wp2
  go_ret
  exact ⟨x == 0, rfl, HC1.out, hf⟩

end Go.Proofs.Ytaaocnfbbajphaa
