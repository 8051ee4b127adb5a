/- Contracts of what is drawn for the law of instructions: DrawIsInstruction, DrawPackInstruction, DrawUnpackInstruction, DrawParseAssembly; what is packed is unpacked. The code of at most 65536 bytes. -/
import Derived.Test.YtlahpnihnpmgoaaDoorGd
import Derived.Test.YtlahpnihnpmgoaaDoorGb
import Derived.Test.YtlahpnihnpmgoaaDoorSpo
import Derived.Test.YtlahpnihnpmgoaaDoorPg
import Derived.IntWalk
namespace Go.Proofs.YtlahpnihnpmgoaaDoor
open Go.RowKit
set_option linter.unusedVariables false
set_option linter.unusedSimpArgs false

theorem Code.upI {w w' : World} {B B' n : Nat} {A : Option Addr} (h : Code w B A n) (hb : Below w.heap.size w w') (hB : B ≤ B') : Code w' B' A n :=
  ⟨h.1, fun hn => by
    obtain ⟨b, o, e, h1, h2, h3⟩ := h.2 hn
    refine ⟨b, o, e, Nat.lt_of_lt_of_le h1 hB, Nat.lt_of_lt_of_le h2 hb.size, fun i hi => ?_⟩
    rw [hb.cell (p := ⟨b, o + i, none⟩) h2]
    exact h3 i hi⟩
theorem Cu.new2I {w : World} {A : Option Addr} {n c : Nat} (h : Code w w.heap.size A n) (o : Obj) :
    Cu ((w.alloc o).alloc (.cells #[.slice A n c, .int .i64 0, .int .u64 0] 66)) w.heap.size (w.heap.size + 1) 0 := by
  have h1 := Box.new (w.alloc o) 66 #[.slice A n c, .int .i64 0, .int .u64 0]
  rw [size_alloc] at h1
  exact ⟨Nat.le_succ _, A, n, c, 0, h1, h.upI (below_next (below_alloc w o) (below_alloc _ _)) (Nat.le_refl _)⟩
abbrev z4 : Array Value := #[.int .i64 0, .int .i64 0, .int .i64 0, .int .i64 0]
set_option maxHeartbeats 2000000 in
theorem DrawIsInstruction_any (A : Option Addr) (n ca : Nat) (w : World) (h : Code w w.heap.size A n) :
    Calls Tryd.prog 34 #[.slice A n ca] w fun e w' => ∃ o a b m : Int, e = .returned (insV o a b m) ∧ Below w.heap.size w w' := by
  have HC := Lib.hid (Cu.new2I (c := ca) h (.cells z4 26))
  have HX := Lib.hid ((Box.new w 26 z4).alloc (.cells #[.slice A n ca, .int .i64 0, .int .u64 0] 66))
  have HB := Lib.hid (below_next (below_alloc w (.cells z4 26)) (below_alloc _ (.cells #[.slice A n ca, .int .i64 0, .int .u64 0] 66)))
  clear h
  go_enter Tryd.func34, Tryd.ntmps34
  go_wp2_with fail
  refine (instruction_any HC.out (by omega)).mono ?_
  rintro e w1 ⟨o, a, b, m, rfl, -, hf⟩
  have X1 := HX.out.farC hf (by omega)
  have HB1 := Lib.hid (HB.out.trans (hf.below (Nat.le_succ _) HB.out.size))
  have D := X1.cell
  have E := X1.free
  clear X1 hf HC HX
  go_wp2
  refine bodyPost_ret (v := insV o a b m) (by simp [results, Tryd.results34, go_sem, D, E]) rfl ?_
  exact ⟨o, a, b, m, rfl, (((HB1.out.setCell (Nat.le_refl _) _).setCell (Nat.le_refl _) _).setCell (Nat.le_refl _) _).setCell (Nat.le_refl _) _⟩
set_option maxHeartbeats 2000000 in
theorem DrawPackInstruction_any (A : Option Addr) (n ca : Nat) (w : World) (h : Code w w.heap.size A n) :
    Calls Tryd.prog 13 #[.slice A n ca] w fun e w' => ∃ o a b m : Int, e = .returned (insV o a b m) ∧ Below w.heap.size w w' := by
  have HC := Lib.hid (h.upI (below_alloc w (.cells z4 26)) (B' := (w.alloc (.cells z4 26)).heap.size) (by simp))
  have HX := Lib.hid (Box.new w 26 z4)
  clear h
  go_enter Tryd.func13, Tryd.ntmps13
  go_wp2_with fail
  refine (DrawIsInstruction_any A n ca _ HC.out).mono ?_
  rintro e w1 ⟨o, a, b, m, rfl, hb⟩
  have X1 := HX.out.keep hb
  have HB1 := Lib.hid (below_next (below_alloc w (.cells z4 26)) hb)
  have D := X1.cell
  have E := X1.free
  clear X1 hb HC HX
  go_wp2
  refine bodyPost_ret (v := insV o a b m) (by simp [results, Tryd.results13, go_sem, D, E]) rfl ?_
  exact ⟨o, a, b, m, rfl, (((HB1.out.setCell (Nat.le_refl _) _).setCell (Nat.le_refl _) _).setCell (Nat.le_refl _) _).setCell (Nat.le_refl _) _⟩
set_option maxHeartbeats 2000000 in
theorem DrawUnpackInstruction_any (A : Option Addr) (n ca : Nat) (w : World) (h : Code w w.heap.size A n) :
    Calls Tryd.prog 18 #[.slice A n ca] w fun e w' => ∃ m : Int, e = .returned (.int .i64 m) ∧ Below w.heap.size w w' := by
  have HR := Lib.hid (Rw.start (Cu.new (c := ca) h))
  have HB := Lib.hid (below_alloc w (.cells #[.slice A n ca, .int .i64 0, .int .u64 0] 66))
  clear h
  go_enter Tryd.func18, Tryd.ntmps18
  go_wp2_with fail
  refine (instruction_any HR.out.cu (by omega)).mono ?_
  rintro e w1 ⟨o, a, b, m, rfl, ⟨k1, hk1, hc1⟩, hf1⟩
  have R1 := Lib.hid (HR.out.step hc1 hf1)
  clear hc1 hf1 HR
  go_wp2_with fail
  refine (s_PackInstruction_any o a b m _).mono ?_
  rintro e w2 ⟨rfl, hb2⟩
  have R2 := Lib.hid (R1.out.below hb2)
  obtain ⟨q, hq⟩ : ∃ q, q = selI (insB o a b m) (pakI o a b m) := ⟨_, rfl⟩
  rw [← hq]
  clear hb2 hq R1
  go_wp2_with fail
  refine (among_lit (-1) 16777216 8 _ _ R2.out.cu (by omega) rfl (by decide) (by decide) (by decide)).mono ?_
  rintro e w3 ⟨x, hx, rfl, ⟨k3, hk3, hc3⟩, hf3⟩
  have R3 := Lib.hid (R2.out.step hc3 hf3)
  clear hc3 hf3 R2
  go_wp2
  go_ret
  exact ⟨_, rfl, HB.out.trans (R3.out.far.below (Nat.le_refl _) HB.out.size)⟩
theorem selB_at (v : Bool) (l : List UInt8) : ∃ t : List UInt8, selB v l = ⟨t.toArray⟩ ∧ (v = true → t = l) ∧ t.length ≤ l.length := by
  cases v
  · exact ⟨[], rfl, (fun h => by cases h), by simp⟩
  · exact ⟨l, rfl, fun _ => rfl, Nat.le_refl _⟩
theorem asm_text (o a b n : Int) : ∃ t : List UInt8, selB (insB o a b n) (asmL o a b n) = ⟨t.toArray⟩ ∧ (insB o a b n = true → t = asmL o a b n) ∧ t.length ≤ 20 := by
  cases h : insB o a b n
  · exact ⟨[], rfl, (fun h => by cases h), by simp⟩
  · exact ⟨_, rfl, fun _ => rfl, asm_len h⟩
set_option maxHeartbeats 2000000 in
theorem DrawParseAssembly_any (A : Option Addr) (n ca : Nat) (w : World) (h : Code w w.heap.size A n) :
    Calls Tryd.prog 20 #[.slice A n ca] w fun e w' => ∃ l : List UInt8, e = .returned (.string ⟨l.toArray⟩) ∧ l.length ≤ 1000 ∧ Below w.heap.size w w' := by
  have HR := Lib.hid (Rw.start (Cu.new (c := ca) h))
  have HB := Lib.hid (below_alloc w (.cells #[.slice A n ca, .int .i64 0, .int .u64 0] 66))
  clear h
  go_enter Tryd.func20, Tryd.ntmps20
  go_wp2_with fail
  refine (instruction_any HR.out.cu (by omega)).mono ?_
  rintro e w1 ⟨o, a, b, m, rfl, ⟨k1, hk1, hc1⟩, hf1⟩
  have R1 := Lib.hid (HR.out.step hc1 hf1)
  clear hc1 hf1 HR
  go_wp2_with fail
  refine (s_AssemblyText_eq (o := o) (a := a) (b := b) (n := m) rfl _).mono ?_
  rintro e w2 ⟨rfl, hb2⟩
  have R2 := Lib.hid (R1.out.below hb2)
  obtain ⟨t, ht, -, htl⟩ := asm_text o a b m
  obtain ⟨v, hv⟩ : ∃ v, v = insB o a b m := ⟨_, rfl⟩
  rw [ht, ← hv]
  clear hb2 R1 ht hv
  go_wp2_with fail
  refine (one_any 4 R2.out.cu (by omega) (by decide) (by decide)).mono ?_
  rintro e w3 ⟨c, rfl, ⟨k3, hk3, hc3⟩, hf3⟩
  have R3 := Lib.hid (R2.out.step hc3 hf3)
  clear hc3 hf3 R2
  cases c
  · go_wp2
    go_ret
    exact ⟨t, rfl, by omega, HB.out.trans (R3.out.far.below (Nat.le_refl _) HB.out.size)⟩
  · go_wp2_with fail
    refine (spoilt_any t [48, 32, 114, 52, 97, 116] R3.out.cu (by omega) (by omega) (by decide) (by decide)).mono ?_
    rintro e w4 ⟨q, hq, rfl, ⟨k4, hk4, hc4⟩, hf4⟩
    have R4 := Lib.hid (R3.out.step hc4 hf4)
    clear hc4 hf4 R3
    go_wp2
    go_ret
    refine ⟨q.data.toList, by simp, ?_, HB.out.trans (R4.out.far.below (Nat.le_refl _) HB.out.size)⟩
    have : q.data.toList.length = q.size := by rw [Array.length_toList]; rfl
    omega
/-- what is packed is unpacked -/
theorem un_pak {o a b n : Int} (h : insB o a b n = true) : unB (pakI o a b n) = true ∧ pakI o a b n / 1048576 = o ∧ bits .and .i64 (pakI o a b n / 262144) 3 = a ∧ bits .and .i64 (pakI o a b n / 65536) 3 = b ∧ bits .and .i64 (pakI o a b n) 65535 = n := by
  obtain ⟨⟨h0, h1⟩, ⟨h2, h3⟩, ⟨h4, h5⟩, h6, h7⟩ := insB_bd h
  have e := pakI_eq h0 h1 h2 h3 h4 h5 h6 h7
  have e1 : pakI o a b n / 1048576 = o := by omega
  have e2 : bits .and .i64 (pakI o a b n / 262144) 3 = a := by rw [and3 _ (by omega) (by omega)]; omega
  have e3 : bits .and .i64 (pakI o a b n / 65536) 3 = b := by rw [and3 _ (by omega) (by omega)]; omega
  have e4 : bits .and .i64 (pakI o a b n) 65535 = n := by rw [and16 _ (by omega) (by omega)]; omega
  refine ⟨?_, e1, e2, e3, e4⟩
  unfold unB
  rw [e1, e2, e3, e4]
  exact h
/-- unpacking, the result as letters -/
theorem un_all (m : Int) : ∃ (p0 p1 p2 p3 : Int), insN m = insV p0 p1 p2 p3 ∧ (∀ o a b n, insB o a b n = true → m = pakI o a b n → unB m = true ∧ p0 = o ∧ p1 = a ∧ p2 = b ∧ p3 = n) := by
  refine ⟨_, _, _, _, rfl, fun o a b n h hm => ?_⟩
  subst hm
  obtain ⟨e0, e1, e2, e3, e4⟩ := un_pak h
  refine ⟨e0, ?_, ?_, ?_, ?_⟩ <;> (rw [e0]; simp only [selI, if_true]; assumption)
end Go.Proofs.YtlahpnihnpmgoaaDoor
