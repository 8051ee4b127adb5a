/- Contracts on records of Instruction and slices of them: toInstruction, toInstructionS, eqInstruction, eqInstructionS, szInstructionS. Lengths at most 2^20. -/
import Derived.Test.YtlahpnihnpmgoaaGa
import Derived.Test.YtlahpnihnpmgoaaSl
import Derived.Deep.RegionHeld3
namespace Go.Proofs.Ytlahpnihnpmgoaa
open Go.RowKit
set_option linter.unusedVariables false
set_option linter.unusedSimpArgs false

/-- a record of Instruction -/
structure RInstruction where
  f0 : Int
  f1 : Int
  f2 : Int
  f3 : Int
def cInstruction (x : RInstruction) : List Value := [.int .i64 x.f0, .int .i64 x.f1, .int .i64 x.f2, .int .i64 x.f3]
abbrev vInstruction (x : RInstruction) : Value := .agg #[.int .i64 x.f0, .int .i64 x.f1, .int .i64 x.f2, .int .i64 x.f3]
theorem cInstruction_len (x : RInstruction) : (cInstruction x).length = 4 := rfl
theorem posInstruction : 0 < 4 := by decide
abbrev zInstruction : RInstruction := ⟨0, 0, 0, 0⟩
abbrev tsInstruction (A : Option Addr) (n c : Nat) (xs : List RInstruction) : Thing := ⟨52, 4, A, n, c, J cInstruction xs⟩
theorem Try.info52 : (Try.prog.info? 52).map (fun i => (i.zero, i.size, i.bytes)) = some (some (.agg #[.int .i64 0, .int .i64 0, .int .i64 0, .int .i64 0]), 4, 32) := by kernel_rfl
theorem madeInstruction (n : Nat) : (madeCells (Value.agg #[.int .i64 0, .int .i64 0, .int .i64 0, .int .i64 0]).cells (n * 4)).toList = J cInstruction (List.replicate n zInstruction) := made_J (f := cInstruction) (x := zInstruction) cInstruction_len posInstruction rfl n
theorem atInstruction {w : World} {A : Option Addr} {n k : Nat} {xs : List RInstruction} (h : Rd w 4 A n (J cInstruction xs)) (hk : k < n) :
    ∃ b o x, A = some ⟨b, o, none⟩ ∧ b < w.heap.size ∧ Hid (xs[k]? = some x) ∧ w.cell? ⟨b, o + k * 4, none⟩ = some (.int .i64 x.f0) ∧ w.cell? ⟨b, o + k * 4 + 1, none⟩ = some (.int .i64 x.f1) ∧ w.cell? ⟨b, o + k * 4 + 2, none⟩ = some (.int .i64 x.f2) ∧ w.cell? ⟨b, o + k * 4 + 3, none⟩ = some (.int .i64 x.f3) := by
  obtain ⟨b, o, x, hA, hb, hx, hc⟩ := h.atS posInstruction cInstruction_len hk
  exact ⟨b, o, x, hA, hb, hx, hc 0 _ rfl, by rw [Nat.add_assoc]; exact hc 1 _ rfl, by rw [Nat.add_assoc]; exact hc 2 _ rfl, by rw [Nat.add_assoc]; exact hc 3 _ rfl⟩
set_option maxHeartbeats 400000 in
theorem toRInstruction_any (x : RInstruction) (w : World) :
    Calls Try.prog 30 #[vInstruction x] w fun e w' => e = .returned (vInstruction x) ∧ Below w.heap.size w w' := by
  go_enter Try.func30, Try.ntmps30
  go_wp2
  exact bodyPost_ret (v := vInstruction x) (by simp [results, Try.results30, go_sem]) rfl ⟨rfl, ((Below.refl _ _).alloc (Nat.le_refl _) _).alloc (by simp) _ |>.alloc (by simp <;> omega) _⟩

set_option maxHeartbeats 400000 in
theorem eqRInstruction_same (x : RInstruction) (w : World) :
    Calls Try.prog 33 #[vInstruction x, vInstruction x] w fun e w' => e = .returned (.bool true) ∧ Below w.heap.size w w' := by
  go_enter Try.func33, Try.ntmps33
  go_wp2
  go_ret
  exact ⟨rfl, below_next (below_alloc _ _) (below_alloc _ _)⟩

set_option maxHeartbeats 400000 in
theorem szInstructionS_eq (A : Option Addr) (n c : Nat) (w : World) (hn : n ≤ 9223372036854775807) (r : Int) (hr : (if n ≤ 1048576 then 1048576 - (n : Int) else -1) = r) :
    Calls Try.prog 5 #[.slice A n c, .int .i64 1048576] w fun e w' => e = .returned (.int .i64 r) ∧ w = w' := by
  have HR := Lib.hid hr
  clear hr
  by_cases h : n ≤ 1048576
  all_goals
    go_enter Try.func5, Try.ntmps5
    go_wp2
    go_ret
    exact ⟨ret_int (by rw [← HR.out]; simp [h]), rfl⟩

set_option maxHeartbeats 2000000 in
theorem toInstructionS_any (A : Option Addr) (n c : Nat) (xs : List RInstruction) (w : World) (hr : Rd w 4 A n (J cInstruction xs)) (hn : n ≤ 1048576) :
    Calls Try.prog 7 #[.slice A n c] w fun e w' => ∃ A' c', e = .returned (.slice A' n c') ∧ Own w' w.heap.size (tsInstruction A' n c' xs) ∧ Below w.heap.size w w' := by
  have hlen := hr.lenS posInstruction cInstruction_len
  subst hlen
  obtain ⟨i0, hi, hz0, hz1, hz2⟩ := info_parts Try.info52
  go_enter Try.func7, Try.ntmps7
  go_wp2_with (at_make; refine wpList_make_full _ rfl _ _ 27 rfl w.heap.size 52 i0 (.agg #[.int .i64 0, .int .i64 0, .int .i64 0, .int .i64 0]) 4 Try.underlying27 hi hz0 hz1 .i64 .i64 _ _ xs.length rfl rfl (by first | rfl | omega) (by first | rfl | omega) (by rw [hz2]; omega) (by unfold maxLen; omega) (Nat.le_refl _) ?_; intro w1 hown hgrow)
  rw [madeInstruction] at hown
  have hb1 : Below w.heap.size w w1 := (Below.refl _ _).grown hgrow (Nat.le_refl _) (by simp)
  clear hgrow hi hz0 hz1 hz2
  go_loopw [4] (fun i wr => ∃ k : Nat, k ≤ xs.length ∧ i = .int .i64 k ∧ Own wr w.heap.size (tsInstruction (some ⟨w.heap.size, 0, none⟩) xs.length xs.length (xs.take k ++ List.replicate (xs.length - k) zInstruction)) ∧ Below w.heap.size w wr)
    (fun i _ => xs.length - (intOf i).toNat)
  case atStart => exact ⟨0, Nat.zero_le _, rfl, by simpa using hown, hb1⟩
  case round =>
    obtain ⟨k, hk, rfl, hO, hB⟩ := hrel
    by_cases hlt : k < xs.length
    · obtain ⟨b, o, x, rfl, hbl, hxk, hc0, hc1, hc2, hc3⟩ := atInstruction (hr.keep hB) hlt
      have HO := Lib.hid hO
      clear hO
      go_wp2_with fail
      refine (toRInstruction_any _ _).mono ?_
      rintro e w2 ⟨rfl, hb2⟩
      have hO2 : Own w2 w.heap.size _ := World.ownsRow.kept (row := none) HO.out (grown_of_below hb2 _) (by right; rw [ownBlock_slice]; simp [blk])
      have hfk := fill_get xs zInstruction k hlt
      have y0 : w2.cell? ⟨w.heap.size, k * 4, none⟩ = some (.int .i64 0) := own_cellS (j := 0) cInstruction_len hO2 hfk hlt (by decide) rfl
      have y1 : w2.cell? ⟨w.heap.size, k * 4 + 1, none⟩ = some (.int .i64 0) := own_cellS (j := 1) cInstruction_len hO2 hfk hlt (by decide) rfl
      have y2 : w2.cell? ⟨w.heap.size, k * 4 + 2, none⟩ = some (.int .i64 0) := own_cellS (j := 2) cInstruction_len hO2 hfk hlt (by decide) rfl
      have y3 : w2.cell? ⟨w.heap.size, k * 4 + 3, none⟩ = some (.int .i64 0) := own_cellS (j := 3) cInstruction_len hO2 hfk hlt (by decide) rfl
      have hfz : ∀ j, w2.frozen? ⟨w.heap.size, j, none⟩ = false := fun j => World.ownsRow.frozenAt hO2 j
      have P2 := own_putAll (cInstruction x) w2 _ (k * 4) hO2
      rw [J_set cInstruction_len _ k (by rw [fill_len xs zInstruction k hk]; exact hlt) x, set_fillA xs zInstruction k x hxk.out] at P2
      have HP2 := Lib.hid P2
      have HB2 := Lib.hid (below_next hB hb2)
      clear P2 hO2 hfk hb2
      go_wp2
      go_roundw
      case rel => exact ⟨k + 1, by omega, by go_num, HP2.out.1, putAll_below (cInstruction x) (p := k * 4) HB2.out (Nat.le_refl _)⟩
      case measure => simp [intOf]; omega
    · have hkn : k = xs.length := by omega
      have HO := Lib.hid hO
      clear hO
      go_wp2
      go_ret
      refine ⟨_, _, rfl, ?_, hB⟩
      have := HO.out
      subst hkn
      simpa using this

set_option maxHeartbeats 2000000 in
theorem eqInstructionS_same (A A' : Option Addr) (n c c' : Nat) (xs : List RInstruction) (w : World) (hr : Rd w 4 A n (J cInstruction xs)) (hr' : Rd w 4 A' n (J cInstruction xs)) (hn : n ≤ 1048576) :
    Calls Try.prog 10 #[.slice A n c, .slice A' n c'] w fun e w' => e = .returned (.bool true) ∧ Below w.heap.size w w' := by
  have hnb : ((n : Int) != (n : Int)) = false := by simp
  go_enter Try.func10, Try.ntmps10
  go_wp2
  go_loopw [5] (fun i wr => ∃ k : Nat, k ≤ n ∧ i = .int .i64 k ∧ Below w.heap.size w wr) (fun i _ => n - (intOf i).toNat)
  case atStart => exact ⟨0, Nat.zero_le _, rfl, Below.refl _ _⟩
  case round =>
    obtain ⟨k, hk, rfl, hB⟩ := hrel
    clear hnb
    by_cases hlt : k < n
    · obtain ⟨b, o, x, rfl, hbl, hxk, hc0, hc1, hc2, hc3⟩ := atInstruction (hr.keep hB) hlt
      obtain ⟨b', o', y, rfl, hbl', hyk, hd0, hd1, hd2, hd3⟩ := atInstruction (hr'.keep hB) hlt
      obtain rfl : x = y := Option.some.inj (hxk.out.symm.trans hyk.out)
      have ex0 : ∀ q : Ext wr, q.1.cell? ⟨b, o + k * 4, none⟩ = some (.int .i64 x.f0) := fun q => (Ext.cell b hbl q _).trans hc0
      have ex1 : ∀ q : Ext wr, q.1.cell? ⟨b, o + k * 4 + 1, none⟩ = some (.int .i64 x.f1) := fun q => (Ext.cell b hbl q _).trans hc1
      have ex2 : ∀ q : Ext wr, q.1.cell? ⟨b, o + k * 4 + 2, none⟩ = some (.int .i64 x.f2) := fun q => (Ext.cell b hbl q _).trans hc2
      have ex3 : ∀ q : Ext wr, q.1.cell? ⟨b, o + k * 4 + 3, none⟩ = some (.int .i64 x.f3) := fun q => (Ext.cell b hbl q _).trans hc3
      have ey0 : ∀ q : Ext wr, q.1.cell? ⟨b', o' + k * 4, none⟩ = some (.int .i64 x.f0) := fun q => (Ext.cell b' hbl' q _).trans hd0
      have ey1 : ∀ q : Ext wr, q.1.cell? ⟨b', o' + k * 4 + 1, none⟩ = some (.int .i64 x.f1) := fun q => (Ext.cell b' hbl' q _).trans hd1
      have ey2 : ∀ q : Ext wr, q.1.cell? ⟨b', o' + k * 4 + 2, none⟩ = some (.int .i64 x.f2) := fun q => (Ext.cell b' hbl' q _).trans hd2
      have ey3 : ∀ q : Ext wr, q.1.cell? ⟨b', o' + k * 4 + 3, none⟩ = some (.int .i64 x.f3) := fun q => (Ext.cell b' hbl' q _).trans hd3
      have h0 : (0 : Int) ≤ (k : Int) := by omega
      have h1 : (k : Int) < (n : Int) := by omega
      clear hc0 hd0 hc1 hd1 hc2 hd2 hc3 hd3
      go_wp2_with fail
      refine wp_region_ext (by kernel_rfl) (by kernel_rfl) ?_
      repeat (go_big_quiet_step ((go_at_call 33; refine calls_ext (eqRInstruction_same x _))))
      refine wpQuiet_nil ?_
      rintro _ ⟨⟨w1, hb1⟩, rfl⟩
      go_wp2
      go_roundw
      case rel => exact ⟨k + 1, by omega, by go_num, below_next hB hb1⟩
      case measure => simp [intOf]; omega
    · go_wp2
      go_ret
      exact ⟨rfl, hB⟩


/-- at the place of the first that meets p, or -1 -/
def FndInstruction (p : RInstruction → Bool) (l : List RInstruction) (r : Int) : Prop := (r = -1 ∧ l.any p = false) ∨ (∃ k : Nat, r = k ∧ l.any p = true)
set_option maxHeartbeats 2000000 in
theorem indexFuncInstruction (K : Nat) (hK : ∀ (x : RInstruction) (w : World), (callFunc K #[vInstruction x]).run Try.prog w = .ok (.enter K #[vInstruction x]) w) (p : RInstruction → Bool) (hp : ∀ x w b, p x = b → Calls Try.prog K #[vInstruction x] w fun e w' => e = .returned (.bool b) ∧ Below w.heap.size w w')
    (A : Option Addr) (n c : Nat) (xs : List RInstruction) (w : World) (hr : Rd w 4 A n (J cInstruction xs)) (hn : n ≤ 4503599627370496) :
    Calls Try.prog 64 #[.slice A n c, .func (.func K) #[] #[]] w fun e w' => ∃ r, e = .returned (.int .i64 r) ∧ FndInstruction p xs r ∧ Below w.heap.size w w' := by
  have hl := hr.lenS posInstruction cInstruction_len
  have HP := Lib.hid hp
  clear hp
  go_enter Try.func64, Try.ntmps64
  go_wp2
  go_loopw [5, 8] (fun j i wr => ∃ k : Nat, k ≤ n ∧ i = .int .i64 k ∧ Hid ((xs.take k).any p = false) ∧ Below w.heap.size w wr) (fun _ i _ => n - (intOf i).toNat)
  case atStart => exact ⟨0, Nat.zero_le _, rfl, by rfl, Below.refl _ _⟩
  case round =>
    obtain ⟨k, hk, rfl, ht, hB⟩ := hrel
    by_cases hlt : k < n
    · obtain ⟨b, o, x, rfl, hbl, hxk, hc0, hc1, hc2, hc3⟩ := atInstruction (hr.keep hB) hlt
      cases hpx : p x
      all_goals have HX := Lib.hid hpx
      all_goals clear hpx
      · go_wp2_with fail
        refine (HP.out x _ _ HX.out).mono ?_
        rintro e w1 ⟨rfl, hb1⟩
        go_wp2
        go_roundw
        case rel => exact ⟨k + 1, by omega, by go_num, any_snocA ht.out hxk.out HX.out, below_next hB hb1⟩
        case measure => simp [intOf]; omega
      · go_wp2_with fail
        refine (HP.out x _ _ HX.out).mono ?_
        rintro e w1 ⟨rfl, hb1⟩
        go_wp2
        go_ret
        exact ⟨_, rfl, .inr ⟨k, rfl, List.any_eq_true.2 ⟨x, List.mem_of_getElem? hxk.out, HX.out⟩⟩, below_next hB hb1⟩
    · go_wp2
      go_ret
      refine ⟨_, rfl, .inl ⟨rfl, ?_⟩, hB⟩
      have := ht.out
      rwa [List.take_of_length_le (by omega)] at this

set_option maxHeartbeats 1000000 in
theorem containsFuncInstruction (K : Nat) (hK : ∀ (x : RInstruction) (w : World), (callFunc K #[vInstruction x]).run Try.prog w = .ok (.enter K #[vInstruction x]) w) (p : RInstruction → Bool) (hp : ∀ x w b, p x = b → Calls Try.prog K #[vInstruction x] w fun e w' => e = .returned (.bool b) ∧ Below w.heap.size w w')
    (A : Option Addr) (n c : Nat) (xs : List RInstruction) (w : World) (hr : Rd w 4 A n (J cInstruction xs)) (hn : n ≤ 4503599627370496) (r : Bool) (hT : xs.any p = r) :
    Calls Try.prog 50 #[.slice A n c, .func (.func K) #[] #[]] w fun e w' => e = .returned (.bool r) ∧ Below w.heap.size w w' := by
  have HP := Lib.hid hp
  clear hp
  have HT := Lib.hid hT
  clear hT
  go_enter Try.func50, Try.ntmps50
  go_wp2_with fail
  refine (indexFuncInstruction K hK p HP.out A n c xs _ hr hn).mono ?_
  rintro e w1 ⟨q, rfl, hq, hb1⟩
  rcases hq with ⟨rfl, h1⟩ | ⟨k, rfl, h5⟩
  · rw [HT.out] at h1
    subst h1
    go_wp2
    go_ret
    exact ⟨rfl, hb1⟩
  · rw [HT.out] at h5
    subst h5
    have h6 : (0 : Int) ≤ (k : Int) := by omega
    go_wp2
    go_ret
    exact ⟨rfl, hb1⟩

end Go.Proofs.Ytlahpnihnpmgoaa
