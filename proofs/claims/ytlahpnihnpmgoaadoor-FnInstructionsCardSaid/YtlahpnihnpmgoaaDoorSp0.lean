/- Splitting a text: plain words, and the contract of l1Split. Lengths at most 2^20. -/
import Derived.Test.YtlahpnihnpmgoaaDoorSs0
import Derived.Lib.Strings
namespace Go.Proofs.YtlahpnihnpmgoaaDoor
open Go.RowKit
set_option linter.unusedVariables false
set_option linter.unusedSimpArgs false

/-- one step of splitting: the parts that are done, and the part that is under way -/
def spS (b : UInt8) (st : List (List UInt8) × List UInt8) (c : UInt8) : List (List UInt8) × List UInt8 := if c = b then (st.1 ++ [st.2], []) else (st.1, st.2 ++ [c])
def spF (b : UInt8) (l : List UInt8) : List (List UInt8) × List UInt8 := l.foldl (spS b) ([], [])
/-- the parts of a text between bytes -/
def splitL (b : UInt8) (l : List UInt8) : List (List UInt8) := (spF b l).1 ++ [(spF b l).2]
theorem spF_snoc (b : UInt8) (l : List UInt8) (c : UInt8) : spF b (l ++ [c]) = spS b (spF b l) c := by simp [spF]
theorem spF_at {b : UInt8} {l : List UInt8} {k : Nat} {c : UInt8} (h : l[k]? = some c) : spF b (l.take (k + 1)) = spS b (spF b (l.take k)) c := by rw [take_snocA h, spF_snoc]
theorem spF_inv (b : UInt8) (l : List UInt8) : ∀ k, k ≤ l.length → (spF b (l.take k)).2.length + (spF b (l.take k)).1.length ≤ k ∧ (l.take k).drop (k - (spF b (l.take k)).2.length) = (spF b (l.take k)).2
  | 0, _ => by simp [spF]
  | k + 1, hk => by
    obtain ⟨h1, h2⟩ := spF_inv b l k (by omega)
    have hc : l[k]? = some l[k] := List.getElem?_eq_getElem (by omega)
    have hl : (l.take k).length = k := by simp; omega
    rw [spF_at hc, take_snocA hc]
    unfold spS
    split
    · refine ⟨by simp; omega, ?_⟩
      simp [List.drop_of_length_le, hl]
    · refine ⟨by simp; omega, ?_⟩
      have e : k + 1 - ((spF b (l.take k)).2 ++ [l[k]]).length = k - (spF b (l.take k)).2.length := by simp
      show List.drop (k + 1 - ((spF b (l.take k)).2 ++ [l[k]]).length) _ = _
      rw [e, List.drop_append_of_le_length (by omega), h2]
theorem splitL_len (b : UInt8) (l : List UInt8) : (splitL b l).length ≤ l.length + 1 := by
  have := (spF_inv b l l.length (Nat.le_refl _)).1
  rw [List.take_length] at this
  simp [splitL]; omega
/-- a piece of a text -/
theorem ext_mk (l : List UInt8) (a b : Nat) : (⟨l.toArray⟩ : ByteArray).extract a b = ⟨((l.take b).drop a).toArray⟩ := by
  have h := Lib.extract_data ⟨l.toArray⟩ a b
  simp only [List.toList_toArray] at h
  apply ByteArray.ext
  apply Array.ext'
  rw [h]
  simp [List.drop_take]

/-- what the loop that splits keeps -/
def SpInv (w : World) (b : UInt8) (l : List UInt8) (o f : Value) (k : Nat) (wr : World) : Prop :=
  ∃ A c p n, o = .slice A n c ∧ f = .int .i64 ((p : Nat) : Int) ∧ p ≤ k ∧ n ≤ k ∧ Hid (p = k - (spF b (l.take k)).2.length) ∧ Hid (n = (spF b (l.take k)).1.length) ∧ Own wr w.heap.size (tt A n c (spF b (l.take k)).1) ∧ Below w.heap.size w wr
theorem SpInv.stay {w : World} {b c : UInt8} {l : List UInt8} {A : Option Addr} {q p n k : Nat} {wr : World} (hc : l[k]? = some c) (hne : ¬ c = b) (hk : k < l.length) (h1 : p ≤ k) (h2 : n ≤ k) (h3 : p = k - (spF b (l.take k)).2.length) (h4 : n = (spF b (l.take k)).1.length)
    (h5 : Own wr w.heap.size (tt A n q (spF b (l.take k)).1)) (h6 : Below w.heap.size w wr) : SpInv w b l (.slice A n q) (.int .i64 (p : Int)) (k + 1) wr := by
  have hi := spF_inv b l k (by omega)
  have e : spF b (l.take (k + 1)) = ((spF b (l.take k)).1, (spF b (l.take k)).2 ++ [c]) := by rw [spF_at hc, spS, if_neg hne]
  refine ⟨A, q, p, n, rfl, rfl, by omega, by omega, ?_, ?_, ?_, h6⟩
  · show p = _; rw [e]; simp; omega
  · show n = _; rw [e]; exact h4
  · rw [e]; exact h5
theorem SpInv.next {w w1 : World} {b c : UInt8} {l : List UInt8} {A' : Option Addr} {q' p n k : Nat} {x : Value} (hc : l[k]? = some c) (he : c = b) (hk : k < l.length) (h2 : n ≤ k) (h3 : p = k - (spF b (l.take k)).2.length) (h4 : n = (spF b (l.take k)).1.length)
    (hx : x = .string ((⟨l.toArray⟩ : ByteArray).extract p k)) (h5 : w1.ownsRow w.heap.size 9 1 (.slice A' (n + 1) q') (n + 1) (T (spF b (l.take k)).1 ++ [x])) (h6 : Below w.heap.size w w1) : SpInv w b l (.slice A' (n + 1) q') (.int .i64 ((k : Int) + 1)) (k + 1) w1 := by
  have hi := spF_inv b l k (by omega)
  have e : spF b (l.take (k + 1)) = ((spF b (l.take k)).1 ++ [(spF b (l.take k)).2], []) := by rw [spF_at hc, spS, if_pos he]
  refine ⟨A', q', k + 1, n + 1, rfl, congrArg (Value.int .i64) (by omega), by omega, by omega, ?_, ?_, ?_, h6⟩
  · show k + 1 = _; rw [e]; simp
  · show n + 1 = _; rw [e]; simp; omega
  · rw [e, tt, T_append]
    have hx2 : [x] = T [(spF b (l.take k)).2] := by rw [hx, ext_mk, h3, hi.2]; rfl
    rw [← hx2]; exact h5
theorem SpInv.last {w1 : World} {B : Nat} {b : UInt8} {l : List UInt8} {A' : Option Addr} {q' p n : Nat} {x : Value} (h3 : p = l.length - (spF b (l.take l.length)).2.length) (h4 : n = (spF b (l.take l.length)).1.length)
    (hx : x = .string ((⟨l.toArray⟩ : ByteArray).extract p l.length)) (h5 : w1.ownsRow B 9 1 (.slice A' (n + 1) q') (n + 1) (T (spF b (l.take l.length)).1 ++ [x])) : n + 1 = (splitL b l).length ∧ Own w1 B (tt A' (n + 1) q' (splitL b l)) := by
  have hi := spF_inv b l l.length (Nat.le_refl _)
  have hx2 : [x] = T [(spF b (l.take l.length)).2] := by rw [hx, ext_mk, h3, hi.2]; rfl
  rw [hx2, ← T_append] at h5
  rw [List.take_length] at h4 h5
  exact ⟨by simp [splitL]; omega, h5⟩

set_option maxHeartbeats 4000000 in
theorem l1Split_any (l : List UInt8) (b : UInt8) (w : World) (hn : l.length ≤ 1048576) :
    Calls Tryd.prog 24 #[.string ⟨l.toArray⟩, .int .u8 (b.toNat : Int)] w fun e w' => ∃ A c, e = .returned (.slice A (splitL b l).length c) ∧ Own w' w.heap.size (tt A (splitL b l).length c (splitL b l)) ∧ Below w.heap.size w w' := by
  obtain ⟨i0, hi, hz0, hz1, hz2⟩ := info_parts Tryd.info9
  go_enter Tryd.func24, Tryd.ntmps24
  go_wp2
  go_loopw [5, 6, 7] (fun o f i wr => ∃ k : Nat, k ≤ l.length ∧ i = .int .i64 k ∧ SpInv w b l o f k wr) (fun _ _ i _ => l.length - (intOf i).toNat)
  case atStart => exact ⟨0, Nat.zero_le _, rfl, some ⟨w.heap.size, 0, none⟩, 0, 0, 0, rfl, rfl, Nat.le_refl _, Nat.le_refl _, by show 0 = _; simp, by show 0 = _; simp [spF], own_empty 1 (Box.new w _ _) (Nat.le_refl _), below_alloc w _⟩
  case round =>
    obtain ⟨k, hk, rfl, A1, c1, p, n, rfl, rfl, hp, hnk, h3, h4, hOw, hB⟩ := hrel
    have hsz : w.heap.size ≤ wr.heap.size := hB.size
    by_cases hlt : k < l.length
    · obtain ⟨c, hc⟩ : ∃ c, l[k]? = some c := ⟨_, List.getElem?_eq_getElem hlt⟩
      have hix := str_at l hc
      have HC := Lib.hid hc
      clear hc
      by_cases hcb : c = b
      · have hq : ((c.toNat : Int) == (b.toNat : Int)) = true := by rw [hcb]; simp
        have HCB := Lib.hid hcb
        clear hcb
        have hpk : (p : Int) ≤ (k : Int) := by omega
        have hkl : (k : Int) ≤ (l.length : Int) := by omega
        have hp0 : (0 : Int) ≤ (p : Int) := by omega
        go_wp2_with (at_builtin; refine wpList_app _ rfl _ _ 43 rfl w.heap.size 9 i0 (.string ⟨#[]⟩) 1 16 Tryd.underlying43 hi hz0 hz1 hz2 rfl (by decide) _ _ _ _ rfl (World.ownsRow.alloc hOw _) _ _ _ _ rfl (Rd.one _ _ _) (by simp [Value.oneCell']) (by unfold maxLen; omega) (by omega) (by simp; omega) ?_; intro A' c' w1 hown hgrow hat)
        go_roundw
        case rel => exact ⟨k + 1, by omega, by go_num, SpInv.next HC.out HCB.out hlt hnk h3.out h4.out rfl hown (below_app (hB.alloc hsz _) (by simp; omega) (World.ownsRow.alloc hOw _) hgrow)⟩
        case measure => simp [intOf]; omega
      · have hq : ((c.toNat : Int) == (b.toNat : Int)) = false := by
          simp; intro e; exact hcb (UInt8.toNat_inj.1 (by omega))
        have HCB := Lib.hid hcb
        clear hcb
        have HOw := Lib.hid hOw
        clear hOw
        go_wp2
        go_roundw
        case rel => exact ⟨k + 1, by omega, by go_num, SpInv.stay HC.out HCB.out hlt hp hnk h3.out h4.out HOw.out hB⟩
        case measure => simp [intOf]; omega
    · have hkl : k = l.length := by omega
      subst hkl
      have hpk : (p : Int) ≤ (l.length : Int) := by omega
      have hp0 : (0 : Int) ≤ (p : Int) := by omega
      go_wp2_with (at_builtin; refine wpList_app _ rfl _ _ 43 rfl w.heap.size 9 i0 (.string ⟨#[]⟩) 1 16 Tryd.underlying43 hi hz0 hz1 hz2 rfl (by decide) _ _ _ _ rfl (World.ownsRow.alloc hOw _) _ _ _ _ rfl (Rd.one _ _ _) (by simp [Value.oneCell']) (by unfold maxLen; omega) (by omega) (by simp; omega) ?_; intro A' c' w1 hown hgrow hat)
      go_ret
      have hl := SpInv.last h3.out h4.out rfl hown
      rw [← hl.1]
      exact ⟨_, _, rfl, hl.2, below_app (hB.alloc hsz _) (by simp; omega) (World.ownsRow.alloc hOw _) hgrow⟩
end Go.Proofs.YtlahpnihnpmgoaaDoor
