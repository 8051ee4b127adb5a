/- Contracts of SplitString in the program and in the reference. Lengths at most 2^20. -/
import Derived.Test.YtppnmpkefchknaaSs
import Derived.Test.YtppnmpkefchknaaSp0
namespace Go.Proofs.Ytppnmpkefchknaa
open Go.RowKit
set_option linter.unusedVariables false
set_option linter.unusedSimpArgs false

def selT (b : Bool) (l : List (List UInt8)) : List (List UInt8) := if b then l else []
def splOk (l m : List UInt8) : Bool := decide (l.length ≤ 4000) && decide (m.length = 1)
def splR (l m : List UInt8) : List (List UInt8) := splitL (m.headD 0) l
theorem selT_len (l m : List UInt8) : (selT (splOk l m) (splR l m)).length ≤ 1048576 := by
  unfold selT
  split
  · rename_i h
    simp [splOk] at h
    have := splitL_len (m.headD 0) l
    unfold splR; omega
  · simp
set_option maxHeartbeats 4000000 in
theorem i_SplitString_any (l m : List UInt8) (w : World) (hn : l.length ≤ 1048576) (hm : m.length ≤ 1048576) :
    Calls Try.prog 8 #[.string ⟨l.toArray⟩, .string ⟨m.toArray⟩] w fun e w' => ∃ A c, e = .returned (.tuple #[.slice A (selT (splOk l m) (splR l m)).length c, .bool (splOk l m)]) ∧ Own w' w.heap.size (tt A (selT (splOk l m) (splR l m)).length c (selT (splOk l m) (splR l m))) ∧ Below w.heap.size w w' := by
  by_cases h2 : l.length ≤ 4000
  rotate_left
  · have h3 : (4000 : Int) < (l.length : Int) := by omega
    have e0 := Lib.hid (show splOk l m = false by simp [splOk, h2])
    go_enter Try.func8, Try.ntmps8
    go_wp2
    go_ret2
    rw [e0.out]
    exact ⟨_, _, rfl, ownT_nil _ _, Below.refl _ _⟩
  by_cases h1 : m.length = 1
  rotate_left
  · have h3 : ¬ (4000 : Int) < (l.length : Int) := by omega
    have h4 : ((m.length : Int) != 1) = true := by simp; omega
    have e0 := Lib.hid (show splOk l m = false by simp [splOk, h1])
    clear h1
    go_enter Try.func8, Try.ntmps8
    go_wp2
    go_ret2
    rw [e0.out]
    exact ⟨_, _, rfl, ownT_nil _ _, Below.refl _ _⟩
  obtain ⟨b, rfl⟩ : ∃ b, m = [b] := by
    match m, h1 with
    | [b], _ => exact ⟨b, rfl⟩
  have hix0 : ∀ w : World, (Instr.index 9 (.string ⟨#[b]⟩) (.int .i64 0)).run Try.prog w = .ok (.int .u8 (b.toNat : Int)) w := fun w => str_at [b] (k := 0) rfl w
  have h3 : ¬ (4000 : Int) < (l.length : Int) := by omega
  have e0 := Lib.hid (show splOk l [b] = true by simp [splOk, h2])
  have e1 := Lib.hid (show splR l [b] = splitL b l from rfl)
  clear h1
  obtain ⟨i0, hi, hz0, hz1, hz2⟩ := info_parts Try.info9
  go_enter Try.func8, Try.ntmps8
  go_wp2
  go_loopw [6, 7, 8] (fun o f i wr => ∃ k : Nat, k ≤ l.length ∧ i = .int .i64 k ∧ SpInv w b l o f k wr) (fun _ _ i _ => l.length - (intOf i).toNat)
  case atStart => exact ⟨0, Nat.zero_le _, rfl, some ⟨w.heap.size, 0, none⟩, 0, 0, 0, rfl, rfl, Nat.le_refl _, Nat.le_refl _, by show 0 = _; simp, by show 0 = _; simp [spF], own_empty 1 (Box.new w _ _) (Nat.le_refl _), below_alloc w _⟩
  case round =>
    obtain ⟨k, hk, rfl, A1, c1, p, n, rfl, rfl, hp, hnk, h3', h4, hOw, hB⟩ := hrel
    have hsz : w.heap.size ≤ wr.heap.size := hB.size
    by_cases hlt : k < l.length
    · obtain ⟨c, hc⟩ : ∃ c, l[k]? = some c := ⟨_, List.getElem?_eq_getElem hlt⟩
      have hix := str_at l hc
      have HC := Lib.hid hc
      clear hc
      have hk0 : (0 : Int) ≤ (k : Int) := by omega
      have hk1 : (k : Int) < (l.length : Int) := by omega
      by_cases hcb : c = b
      · have hq : ((c.toNat : Int) == (b.toNat : Int)) = true := by rw [hcb]; simp
        have HCB := Lib.hid hcb
        clear hcb
        have hpk : (p : Int) ≤ (k : Int) := by omega
        have hkl : (k : Int) ≤ (l.length : Int) := by omega
        have hp0 : (0 : Int) ≤ (p : Int) := by omega
        go_wp2
        go_quiet (fail)
        have hB2 := below_drewN hB 1
        go_wp2_with (at_builtin; refine wpList_app _ rfl _ _ 26 rfl w.heap.size 9 i0 (.string ⟨#[]⟩) 1 16 Try.underlying26 hi hz0 hz1 hz2 rfl (by decide) _ _ _ _ rfl (World.ownsRow.alloc hOw _) _ _ _ _ rfl (Rd.one _ _ _) (by simp [Value.oneCell']) (by unfold maxLen; omega) (by omega) (by simp; omega) ?_; intro A' c' w1 hown hgrow hat)
        go_roundw
        case rel => exact ⟨k + 1, by omega, by go_num, SpInv.next HC.out HCB.out hlt hnk h3'.out h4.out rfl hown (below_app (w := (wr.drewN _).alloc _) ((below_drewN hB _).alloc hsz _) (by simp; omega) (World.ownsRow.alloc (w := wr.drewN _) hOw _) hgrow)⟩
        case measure => simp [intOf]; omega
      · have hq : ((c.toNat : Int) == (b.toNat : Int)) = false := by
          simp; intro e; exact hcb (UInt8.toNat_inj.1 (by omega))
        have HCB := Lib.hid hcb
        clear hcb
        have HOw := Lib.hid hOw
        clear hOw
        go_wp2
        go_quiet (fail)
        go_wp2
        go_roundw
        case rel => exact ⟨k + 1, by omega, by go_num, SpInv.stay HC.out HCB.out hlt hp hnk h3'.out h4.out HOw.out (below_drewN hB _)⟩
        case measure => simp [intOf]; omega
    · have hkl : k = l.length := by omega
      subst hkl
      have hpk : (p : Int) ≤ (l.length : Int) := by omega
      have hp0 : (0 : Int) ≤ (p : Int) := by omega
      go_wp2_with (at_builtin; refine wpList_app _ rfl _ _ 26 rfl w.heap.size 9 i0 (.string ⟨#[]⟩) 1 16 Try.underlying26 hi hz0 hz1 hz2 rfl (by decide) _ _ _ _ rfl (World.ownsRow.alloc hOw _) _ _ _ _ rfl (Rd.one _ _ _) (by simp [Value.oneCell']) (by unfold maxLen; omega) (by omega) (by simp; omega) ?_; intro A' c' w1 hown hgrow hat)
      go_ret2
      have hl := SpInv.last h3'.out h4.out rfl hown
      rw [e0.out, selT, if_pos rfl, e1.out, ← hl.1]
      exact ⟨_, _, rfl, hl.2, below_app (hB.alloc hsz _) (by simp; omega) (World.ownsRow.alloc hOw _) hgrow⟩
end Go.Proofs.Ytppnmpkefchknaa
