/- Contracts of OwnersText and ParseOwners. Lengths at most 2^20. -/
import Derived.Test.YtppnmpkefchknaaFb
namespace Go.Proofs.Ytppnmpkefchknaa
open Go.RowKit
set_option linter.unusedVariables false
set_option linter.unusedSimpArgs false

/-- a list of bytes as cells -/
def Bs (l : List UInt8) : List Value := l.map fun b => Value.int .u8 (b.toNat : Int)
theorem Bs_length (l : List UInt8) : (Bs l).length = l.length := by simp [Bs]
theorem Bs_append (a b : List UInt8) : Bs (a ++ b) = Bs a ++ Bs b := by simp [Bs]
theorem Try.info5 : (Try.prog.info? 5).map (fun i => (i.zero, i.size, i.bytes)) = some (some (.int .u8 0), 1, 1) := by kernel_rfl
abbrev tb (A : Option Addr) (n c : Nat) (l : List UInt8) : Thing := ⟨5, 1, A, n, c, Bs l⟩
theorem own_string {w : World} {B : Nat} {A : Option Addr} {n c : Nat} {l : List UInt8} (h : Own w B (tb A n c l)) : (convert 22 9 (.slice A n c)).run Try.prog w = .ok (.string ⟨l.toArray⟩) w := by
  have hl : l.length = n := by have := (Own.rd h).1; simpa [Bs] using this
  rcases A with _ | a
  · have h0 : n = 0 := by
      rcases h.2 with ⟨_, h0⟩ | ⟨g, cap, cur, hv, _⟩
      · exact h0
      · simp at hv
    have hn : l = [] := List.eq_nil_of_length_eq_zero (by omega)
    subst hn
    exact run_convert_bytes_nil (P := Try.prog) (w := w) 22 5 Try.underlying22 Try.underlying5 n c 9 Try.underlying9
  · subst hl
    refine run_convert_bytes_back (P := Try.prog) w 22 9 5 a c l Try.underlying22 Try.underlying5 Try.underlying9 fun j hj => ?_
    obtain ⟨b, o, hA, _, hc⟩ := (Own.rd h).2 (show 0 < l.length by omega)
    obtain rfl := Option.some.inj hA
    have hadd : (⟨b, o, none⟩ : Addr).add j = ⟨b, o + j, none⟩ := by unfold Addr.add; split <;> simp_all
    rw [hadd]
    exact hc j _ (by show (Bs l)[j]? = _; simp [Bs, hj])

/-- the sign of an owner -/
def chB (x : Int) : UInt8 := if x = 0 then 46 else if x = 1 then 49 else if x = 2 then 50 else if x = 3 then 51 else 52
def textL (xs : List Int) : List UInt8 := xs.map chB
theorem textL_snoc (l : List Int) (x : Int) : textL (l ++ [x]) = textL l ++ [chB x] := by simp [textL]
theorem textL_len (l : List Int) : (textL l).length = l.length := by simp [textL]
theorem ownB_at {xs : List Int} (h : ownB xs = true) {k : Nat} {x : Int} (hx : xs[k]? = some x) : x = 0 ∨ x = 1 ∨ x = 2 ∨ x = 3 ∨ x = 4 := by
  simp only [ownB, Bool.and_eq_true] at h
  have h2 := h.2
  rw [Bool.not_eq_true', List.any_eq_false] at h2
  have := h2 x (List.mem_of_getElem? hx)
  simp at this
  have := inB_iff.1 this
  omega

theorem str_snoc (l : List UInt8) (b : UInt8) : Value.string (⟨l.toArray⟩ ++ ⟨#[b]⟩) = .string ⟨(l ++ [b]).toArray⟩ := congrArg Value.string (ByteArray.mk_append_mk l [b])
set_option maxHeartbeats 4000000 in
theorem l2Text_any (A : Option Addr) (n c : Nat) (xs : List Int) (w : World) (hr : Rd w 1 A n (I xs)) (hn : n ≤ 1048576) (hO : ownB xs = true) :
    Calls Try.prog 70 #[.slice A n c] w fun e w' => e = .returned (.string ⟨(textL xs).toArray⟩) ∧ w = w' := by
  have HL := Lib.hid hr.len
  have HO := Lib.hid hO
  clear hO
  go_enter Try.func70, Try.ntmps70
  go_wp2
  go_loop [3, 4, 5] (fun s i x => ∃ (k : Nat) (l : List UInt8), k ≤ n ∧ i = .int .i64 k ∧ s = .string ⟨l.toArray⟩ ∧ l.length ≤ 1048576 ∧ Hid (l = textL (xs.take k))) (fun _ i _ => n - (intOf i).toNat)
  case atStart => exact ⟨0, [], Nat.zero_le _, rfl, rfl, Nat.zero_le _, rfl⟩
  case round =>
    obtain ⟨k, l, hk, rfl, rfl, hll, hs⟩ := hrel
    by_cases hlt : k < n
    · obtain ⟨b, o, x, rfl, hbl, hxk, hc⟩ := hr.at_ hlt
      have hl2 : l.length ≤ k := by rw [hs.out, textL_len]; exact List.length_take_le _ _
      have hsum : l.length + 1 ≤ 9223372036854775807 := by omega
      rcases ownB_at HO.out hxk.out with rfl | rfl | rfl | rfl | rfl
      all_goals
        go_wp2
        go_round
        case rel => exact ⟨k + 1, l ++ [chB _], by omega, by go_num, str_snoc _ _, by simp; omega, by rw [hs.out, take_snoc hxk.out, textL_snoc]; rfl⟩
        case measure => simp [intOf]; omega
    · go_wp2
      go_ret
      have := hs.out
      rw [List.take_of_length_le (by have := HL.out; omega)] at this
      exact ⟨congrArg (fun q : List UInt8 => Ending.returned (.string ⟨q.toArray⟩)) this, rfl⟩

/-- what the loop that makes the text keeps -/
def TxInv (w : World) (xs : List Int) (o : Value) (k : Nat) (wr : World) : Prop :=
  ∃ A c, o = .slice A (textL (xs.take k)).length c ∧ Own wr w.heap.size (tb A (textL (xs.take k)).length c (textL (xs.take k))) ∧ Below w.heap.size w wr
set_option maxHeartbeats 4000000 in
theorem ownersText_any (A : Option Addr) (n c : Nat) (xs : List Int) (w : World) (hr : Rd w 1 A n (I xs)) (hn : n ≤ 1048576) (hO : ownB xs = true) :
    Calls Try.prog 69 #[.slice A n c] w fun e w' => e = .returned (.string ⟨(textL xs).toArray⟩) ∧ Below w.heap.size w w' := by
  have HL := Lib.hid hr.len
  have HO := Lib.hid hO
  clear hO
  obtain ⟨i0, hi, hz0, hz1, hz2⟩ := info_parts Try.info5
  go_enter Try.func69, Try.ntmps69
  go_wp2
  go_loopw [3, 5, 9] (fun s x i wr => ∃ k : Nat, k ≤ n ∧ i = .int .i64 k ∧ TxInv w xs s k wr) (fun _ _ i _ => n - (intOf i).toNat)
  case atStart => exact ⟨0, Nat.zero_le _, rfl, some ⟨w.heap.size, 0, none⟩, 0, rfl, World.ownsRow_made w #[] 0 (Nat.le_refl _) (Nat.zero_le _) rfl, below_alloc w _⟩
  case round =>
    obtain ⟨k, hk, rfl, A1, c1, rfl, hOw, hB⟩ := hrel
    by_cases hlt : k < n
    · obtain ⟨b, o, x, rfl, hbl, hxk, hc⟩ := (hr.keep hB).at_ hlt
      have hl2 : (textL (xs.take k)).length ≤ k := by rw [textL_len]; exact List.length_take_le _ _
      have hsz : w.heap.size ≤ wr.heap.size := hB.size
      rcases ownB_at HO.out hxk.out with rfl | rfl | rfl | rfl | rfl
      all_goals
        have hU := Lib.hid (show textL (xs.take (k + 1)) = _ by rw [take_snoc hxk.out, textL_snoc])
        go_wp2_with (at_builtin; refine wpList_app _ rfl _ _ 22 rfl w.heap.size 5 i0 (.int .u8 0) 1 1 Try.underlying22 hi hz0 hz1 hz2 rfl (by decide) _ _ _ _ rfl (World.ownsRow.alloc hOw _) _ _ _ _ rfl (Rd.one _ _ _) (by simp [Value.oneCell']) (by unfold maxLen; omega) (by omega) (by simp; omega) ?_; intro A' c' w1 hown hgrow hat)
        go_roundw
        case rel =>
          refine ⟨k + 1, by omega, by go_num, A', c', ?_, ?_, ?_⟩
          · rw [hU.out]; simp
          · rw [hU.out, List.length_append, tb, Bs_append]; exact hown
          · exact below_app (hB.alloc hsz _) (by simp; omega) (World.ownsRow.alloc hOw _) hgrow
        case measure => simp [intOf]; omega
    · have hcv := own_string hOw
      have HE := Lib.hid (show textL (xs.take k) = textL xs by rw [List.take_of_length_le (by have := HL.out; omega)])
      clear hOw
      go_wp2
      go_ret
      exact ⟨congrArg (fun q : List UInt8 => Ending.returned (.string ⟨q.toArray⟩)) HE.out, hB⟩

def selS (b : Bool) (l : List UInt8) : ByteArray := if b then ⟨l.toArray⟩ else ⟨#[]⟩
set_option maxHeartbeats 1000000 in
theorem s_OwnersText_any (A : Option Addr) (n c : Nat) (xs : List Int) (w : World) (hr : Rd w 1 A n (I xs)) (hn : n ≤ 1048576) :
    Calls Try.prog 30 #[.slice A n c] w fun e w' => e = .returned (.tuple #[.string (selS (ownB xs) (textL xs)), .bool (ownB xs)]) ∧ Below w.heap.size w w' := by
  cases h0 : ownB xs
  all_goals have H0 := Lib.hid h0
  all_goals clear h0
  · go_enter Try.func30, Try.ntmps30
    go_wp2_with fail
    refine (l2Good_eq _ _ _ xs _ hr (by omega) _ H0.out).mono ?_
    rintro e w1 ⟨rfl, rfl⟩
    go_wp2
    go_ret2
    exact ⟨rfl, Below.refl _ _⟩
  · go_enter Try.func30, Try.ntmps30
    go_wp2_with fail
    refine (l2Good_eq _ _ _ xs _ hr (by omega) _ H0.out).mono ?_
    rintro e w1 ⟨rfl, rfl⟩
    go_wp2_with fail
    refine (l2Text_any _ _ _ xs _ hr hn H0.out).mono ?_
    rintro e w1 ⟨rfl, rfl⟩
    go_wp2
    go_ret2
    exact ⟨rfl, Below.refl _ _⟩

set_option maxHeartbeats 1000000 in
theorem i_OwnersText_any (A : Option Addr) (n c : Nat) (xs : List Int) (w : World) (hr : Rd w 1 A n (I xs)) (hn : n ≤ 1048576) :
    Calls Try.prog 28 #[.slice A n c] w fun e w' => e = .returned (.tuple #[.string (selS (ownB xs) (textL xs)), .bool (ownB xs)]) ∧ Below w.heap.size w w' := by
  cases h0 : ownB xs
  all_goals have H0 := Lib.hid h0
  all_goals clear h0
  · go_enter Try.func28, Try.ntmps28
    go_wp2_with fail
    refine (i_AreOwners_eq _ _ _ xs _ hr (by omega) _ H0.out).mono ?_
    rintro e w1 ⟨rfl, rfl⟩
    go_wp2
    go_ret2
    exact ⟨rfl, Below.refl _ _⟩
  · go_enter Try.func28, Try.ntmps28
    go_wp2_with fail
    refine (i_AreOwners_eq _ _ _ xs _ hr (by omega) _ H0.out).mono ?_
    rintro e w1 ⟨rfl, rfl⟩
    go_wp2_with fail
    refine (ownersText_any _ _ _ xs _ hr hn H0.out).mono ?_
    rintro e w1 ⟨rfl, hb⟩
    go_wp2
    go_ret2
    exact ⟨rfl, hb⟩
end Go.Proofs.Ytppnmpkefchknaa
