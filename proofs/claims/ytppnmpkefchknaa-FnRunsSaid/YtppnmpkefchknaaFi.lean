/- Contracts of ParseOwners. Lengths at most 2^20. -/
import Derived.Test.YtppnmpkefchknaaFh
import Derived.Test.YtppnmpkefchknaaFe
namespace Go.Proofs.Ytppnmpkefchknaa
open Go.RowKit
set_option linter.unusedVariables false
set_option linter.unusedSimpArgs false

/-- the owner of a sign -/
def pB (b : UInt8) : Int := if b = 46 then 0 else (b.toNat : Int) - 48
def parL (l : List UInt8) : List Int := l.map pB
def parOk (l : List UInt8) : Bool := decide (l.length ≤ 16) && (ownB (parL l) && textL (parL l) == l)
theorem parL_len (l : List UInt8) : (parL l).length = l.length := by simp [parL]
theorem parL_snoc {l : List UInt8} {k : Nat} {b : UInt8} (h : l[k]? = some b) : parL (l.take (k + 1)) = parL (l.take k) ++ [pB b] := by
  rw [List.take_add_one, h]; simp [parL]
theorem str_at (l : List UInt8) {k : Nat} {b : UInt8} (h : l[k]? = some b) (w : World) : (Instr.index 9 (.string ⟨l.toArray⟩) (.int .i64 (k : Int))).run Try.prog w = .ok (.int .u8 (b.toNat : Int)) w := by
  obtain ⟨hk, hb⟩ := List.getElem?_eq_some_iff.1 h
  rw [run_index_string (P := Try.prog) (w := w) 9 ⟨l.toArray⟩ .i64 (k : Int) Try.underlying9]
  have : (0 : Int) ≤ (k : Int) ∧ (k : Int) < ((⟨l.toArray⟩ : ByteArray).size : Int) := ⟨by omega, by show (k : Int) < ((l.toArray.size : Nat) : Int); simp; exact hk⟩
  rw [dif_pos this]
  subst hb
  rfl

/-- what the loop that reads the signs keeps -/
def PaInv (w : World) (l : List UInt8) (o : Value) (k : Nat) (wr : World) : Prop :=
  ∃ A c, o = .slice A k c ∧ Own wr w.heap.size (ti A k c (parL (l.take k))) ∧ Below w.heap.size w wr
set_option maxHeartbeats 4000000 in
theorem i_ParseOwners_any (l : List UInt8) (w : World) (hn : l.length ≤ 1048576) :
    Calls Try.prog 29 #[.string ⟨l.toArray⟩] w fun e w' => ∃ A' c', e = .returned (.tuple #[.slice A' (selL (parOk l) (parL l)).length c', .bool (parOk l)]) ∧ Own w' w.heap.size (ti A' (selL (parOk l) (parL l)).length c' (selL (parOk l) (parL l))) ∧ Below w.heap.size w w' := by
  obtain ⟨i0, hi, hz0, hz1, hz2⟩ := info_parts Try.info3
  by_cases h16 : l.length ≤ 16
  · have h1 : ¬ (16 : Int) < (l.length : Int) := by omega
    go_enter Try.func29, Try.ntmps29
    go_wp2
    go_loopw [4, 5, 6] (fun s i x wr => ∃ k : Nat, k ≤ l.length ∧ i = .int .i64 k ∧ PaInv w l s k wr) (fun _ i _ _ => l.length - (intOf i).toNat)
    case atStart => exact ⟨0, Nat.zero_le _, rfl, some ⟨w.heap.size, 0, none⟩, 0, rfl, World.ownsRow_made w #[] 0 (Nat.le_refl _) (Nat.zero_le _) rfl, below_alloc w _⟩
    case round =>
      obtain ⟨k, hk, rfl, A1, c1, rfl, hOw, hB⟩ := hrel
      by_cases hlt : k < l.length
      · obtain ⟨b, hb⟩ : ∃ b, l[k]? = some b := ⟨_, List.getElem?_eq_getElem hlt⟩
        have hix := str_at l hb
        have HX := Lib.hid hb
        clear hb
        have hsz : w.heap.size ≤ wr.heap.size := hB.size
        have hb1 := b.toNat_lt
        have hb0 : (0 : Int) ≤ (b.toNat : Int) := by omega
        have hb2 : (b.toNat : Int) < 256 := by omega
        have hpb : pB b = if b.toNat = 46 then 0 else (b.toNat : Int) - 48 := by
          unfold pB
          by_cases h : b = 46
          · subst h; rfl
          · have : ¬ b.toNat = 46 := fun e => h (UInt8.toNat_inj.1 e)
            rw [if_neg h, if_neg this]
        have HPB := Lib.hid hpb
        clear hpb
        by_cases h46 : b.toNat = 46
        · have hq : ((b.toNat : Int) == 46) = true := by simp; omega
          have HU := Lib.hid (show parL (l.take (k + 1)) = parL (l.take k) ++ [0] by rw [parL_snoc HX.out, HPB.out, if_pos h46])
          clear h46
          go_wp2_with (at_builtin; refine wpList_app _ rfl _ _ 34 rfl w.heap.size 3 i0 (.int .i64 0) 1 8 Try.underlying34 hi hz0 hz1 hz2 rfl (by decide) _ _ _ _ rfl (World.ownsRow.alloc hOw _) _ _ _ _ rfl (Rd.one _ _ _) (by simp [Value.oneCell']) (by unfold maxLen; omega) (by omega) (by simp; omega) ?_; intro A' c' w1 hown hgrow hat)
          go_roundw
          case rel =>
            refine ⟨k + 1, by omega, by go_num, A', c', rfl, ?_, below_app (hB.alloc hsz _) (by simp; omega) (World.ownsRow.alloc hOw _) hgrow⟩
            rw [HU.out, ti, I_append]; exact hown
          case measure => simp [intOf]; omega
        · have hq : ((b.toNat : Int) == 46) = false := by simp; omega
          have HU := Lib.hid (show parL (l.take (k + 1)) = parL (l.take k) ++ [(b.toNat : Int) - 48] by rw [parL_snoc HX.out, HPB.out, if_neg h46])
          clear h46
          go_wp2_with (at_builtin; refine wpList_app _ rfl _ _ 34 rfl w.heap.size 3 i0 (.int .i64 0) 1 8 Try.underlying34 hi hz0 hz1 hz2 rfl (by decide) _ _ _ _ rfl (World.ownsRow.alloc hOw _) _ _ _ _ rfl (Rd.one _ _ _) (by simp [Value.oneCell']) (by unfold maxLen; omega) (by omega) (by simp; omega) ?_; intro A' c' w1 hown hgrow hat)
          go_roundw
          case rel =>
            refine ⟨k + 1, by omega, by go_num, A', c', rfl, ?_, below_app (hB.alloc hsz _) (by simp; omega) (World.ownsRow.alloc hOw _) hgrow⟩
            rw [HU.out, ti, I_append]; exact hown
          case measure => simp [intOf]; omega
      · have hkl : k = l.length := by omega
        subst hkl
        rw [List.take_length] at hOw
        have hrd : Rd wr 1 A1 l.length (I (parL l)) := Own.rd hOw
        cases hT : ownB (parL l)
        all_goals have HT := Lib.hid hT
        all_goals clear hT
        · go_wp2_with fail
          refine (i_AreOwners_eq _ _ _ (parL l) _ hrd (by omega) _ HT.out).mono ?_
          rintro e w1 ⟨rfl, rfl⟩
          go_wp2
          go_ret2
          have e0 : parOk l = false := by simp [parOk, HT.out]
          rw [e0]
          exact ⟨none, 0, rfl, own_nil _ _, hB⟩
        · cases hE : (textL (parL l) == l)
          all_goals have HE := Lib.hid hE
          all_goals clear hE
          all_goals
            go_wp2_with fail
            refine (i_AreOwners_eq _ _ _ (parL l) _ hrd (by omega) _ HT.out).mono ?_
            rintro e w1 ⟨rfl, rfl⟩
            go_wp2_with fail
            refine (ownersText_any _ _ _ (parL l) _ hrd hn HT.out).mono ?_
            rintro e w1 ⟨rfl, hb9⟩
            have hq := HE.out
            have HW := Lib.hid (Own.kept2 hOw hb9)
            clear hOw hrd
            go_wp2
            go_ret2
          · have e0 : parOk l = false := by simp [parOk, HE.out]
            rw [e0]
            exact ⟨none, 0, rfl, own_nil _ _, below_next hB hb9⟩
          · have e0 : parOk l = true := by simp [parOk, HT.out, HE.out, h16]
            have e1 : (selL true (parL l)).length = l.length := by rw [selL, if_pos rfl, parL_len]
            rw [e0, e1]
            exact ⟨A1, c1, rfl, HW.out, below_next hB hb9⟩
  · have h1 : (16 : Int) < (l.length : Int) := by omega
    have e0 := Lib.hid (show parOk l = false by simp [parOk, h16])
    go_enter Try.func29, Try.ntmps29
    go_wp2
    go_ret2
    rw [e0.out]
    exact ⟨none, 0, rfl, own_nil _ _, Below.refl _ _⟩
set_option maxHeartbeats 4000000 in
theorem s_ParseOwners_any (l : List UInt8) (w : World) (hn : l.length ≤ 1048576) :
    Calls Try.prog 32 #[.string ⟨l.toArray⟩] w fun e w' => ∃ A' c', e = .returned (.tuple #[.slice A' (selL (parOk l) (parL l)).length c', .bool (parOk l)]) ∧ Own w' w.heap.size (ti A' (selL (parOk l) (parL l)).length c' (selL (parOk l) (parL l))) ∧ Below w.heap.size w w' := by
  obtain ⟨i0, hi, hz0, hz1, hz2⟩ := info_parts Try.info3
  go_enter Try.func32, Try.ntmps32
  go_wp2
  go_loopw [4, 5] (fun s i wr => ∃ k : Nat, k ≤ l.length ∧ k ≤ 17 ∧ i = .int .i64 k ∧ PaInv w l s k wr) (fun _ i _ => l.length - (intOf i).toNat)
  case atStart => exact ⟨0, Nat.zero_le _, Nat.zero_le _, rfl, some ⟨w.heap.size, 0, none⟩, 0, rfl, World.ownsRow_made w #[] 0 (Nat.le_refl _) (Nat.zero_le _) rfl, below_alloc w _⟩
  case round =>
    obtain ⟨k, hk, hk17, rfl, A1, c1, rfl, hOw, hB⟩ := hrel
    by_cases hlt : k < l.length ∧ k ≤ 16
    · obtain ⟨hlt, hk16⟩ := hlt
      have h2 : (k : Int) ≤ 16 := by omega
      obtain ⟨b, hb⟩ : ∃ b, l[k]? = some b := ⟨_, List.getElem?_eq_getElem hlt⟩
      have hix := str_at l hb
      have HX := Lib.hid hb
      clear hb
      have hsz : w.heap.size ≤ wr.heap.size := hB.size
      have hb1 := b.toNat_lt
      have hb0 : (0 : Int) ≤ (b.toNat : Int) := by omega
      have hb2 : (b.toNat : Int) < 256 := by omega
      have hpb : pB b = if b.toNat = 46 then 0 else (b.toNat : Int) - 48 := by
        unfold pB
        by_cases h : b = 46
        · subst h; rfl
        · have : ¬ b.toNat = 46 := fun e => h (UInt8.toNat_inj.1 e)
          rw [if_neg h, if_neg this]
      have HPB := Lib.hid hpb
      clear hpb
      by_cases h46 : b.toNat = 46
      · have hq : ((b.toNat : Int) == 46) = true := by simp; omega
        have HU := Lib.hid (show parL (l.take (k + 1)) = parL (l.take k) ++ [0] by rw [parL_snoc HX.out, HPB.out, if_pos h46])
        clear h46
        go_wp2_with (at_builtin; refine wpList_app _ rfl _ _ 34 rfl w.heap.size 3 i0 (.int .i64 0) 1 8 Try.underlying34 hi hz0 hz1 hz2 rfl (by decide) _ _ _ _ rfl (World.ownsRow.alloc hOw _) _ _ _ _ rfl (Rd.one _ _ _) (by simp [Value.oneCell']) (by unfold maxLen; omega) (by omega) (by simp; omega) ?_; intro A' c' w1 hown hgrow hat)
        go_roundw
        case rel =>
          refine ⟨k + 1, by omega, by omega, by go_num, A', c', rfl, ?_, below_app (hB.alloc hsz _) (by simp; omega) (World.ownsRow.alloc hOw _) hgrow⟩
          rw [HU.out, ti, I_append]; exact hown
        case measure => simp [intOf]; omega
      · have hq : ((b.toNat : Int) == 46) = false := by simp; omega
        have HU := Lib.hid (show parL (l.take (k + 1)) = parL (l.take k) ++ [(b.toNat : Int) - 48] by rw [parL_snoc HX.out, HPB.out, if_neg h46])
        clear h46
        go_wp2_with (at_builtin; refine wpList_app _ rfl _ _ 34 rfl w.heap.size 3 i0 (.int .i64 0) 1 8 Try.underlying34 hi hz0 hz1 hz2 rfl (by decide) _ _ _ _ rfl (World.ownsRow.alloc hOw _) _ _ _ _ rfl (Rd.one _ _ _) (by simp [Value.oneCell']) (by unfold maxLen; omega) (by omega) (by simp; omega) ?_; intro A' c' w1 hown hgrow hat)
        go_roundw
        case rel =>
          refine ⟨k + 1, by omega, by omega, by go_num, A', c', rfl, ?_, below_app (hB.alloc hsz _) (by simp; omega) (World.ownsRow.alloc hOw _) hgrow⟩
          rw [HU.out, ti, I_append]; exact hown
        case measure => simp [intOf]; omega
    · have hrd : Rd wr 1 A1 k (I (parL (l.take k))) := Own.rd hOw
      by_cases h16 : l.length ≤ 16
      · have hkl : k = l.length := by omega
        subst hkl
        rw [List.take_length] at hOw hrd
        have hlt2 : ¬ (l.length : Int) < (l.length : Int) := by omega
        cases hT : ownB (parL l)
        all_goals have HT := Lib.hid hT
        all_goals clear hT
        · go_wp2_with fail
          refine (l2Good_eq _ _ _ (parL l) _ hrd (by omega) _ HT.out).mono ?_
          rintro e w1 ⟨rfl, rfl⟩
          go_wp2
          go_ret2
          have e0 : parOk l = false := by simp [parOk, HT.out]
          rw [e0]
          exact ⟨_, 0, rfl, own_less (own_new0 _ _ rfl) hB.size, below_next hB (below_alloc _ _)⟩
        · cases hE : (textL (parL l) == l)
          all_goals have HE := Lib.hid hE
          all_goals clear hE
          all_goals
            go_wp2_with fail
            refine (l2Good_eq _ _ _ (parL l) _ hrd (by omega) _ HT.out).mono ?_
            rintro e w1 ⟨rfl, rfl⟩
            go_wp2_with fail
            refine (l2Text_any _ _ _ (parL l) _ hrd hn HT.out).mono ?_
            rintro e w1 ⟨rfl, rfl⟩
            have hq := HE.out
            have HW := Lib.hid hOw
            clear hOw hrd
            go_wp2
            go_ret2
          · have e0 : parOk l = false := by simp [parOk, HE.out]
            rw [e0]
            exact ⟨_, 0, rfl, own_less (own_new0 _ _ rfl) hB.size, below_next hB (below_alloc _ _)⟩
          · have e0 : parOk l = true := by simp [parOk, HT.out, HE.out, h16]
            have e1 : (selL true (parL l)).length = l.length := by rw [selL, if_pos rfl, parL_len]
            rw [e0, e1]
            exact ⟨A1, c1, rfl, HW.out, hB⟩
      · have hkl : k = 17 := by omega
        subst hkl
        have hlt2 : ¬ (17 : Int) ≤ 16 := by omega
        have HT := Lib.hid (show ownB (parL (l.take 17)) = false by
          have : (parL (l.take 17)).length = 17 := by rw [parL_len, List.length_take]; omega
          rw [ownB, this]; rfl)
        have e0 := Lib.hid (show parOk l = false by simp [parOk, h16])
        by_cases hlast : (17 : Nat) < l.length
        all_goals
          go_wp2_with fail
          refine (l2Good_eq _ _ _ (parL (l.take 17)) _ hrd (by omega) _ HT.out).mono ?_
          rintro e w1 ⟨rfl, rfl⟩
          go_wp2
          go_ret2
          rw [e0.out]
          exact ⟨_, 0, rfl, own_less (own_new0 _ _ rfl) hB.size, below_next hB (below_alloc _ _)⟩
end Go.Proofs.Ytppnmpkefchknaa
