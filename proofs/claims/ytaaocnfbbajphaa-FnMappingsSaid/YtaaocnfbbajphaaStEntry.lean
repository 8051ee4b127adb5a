/- Contracts on records of Entry and slices of them: toEntry, toEntryS, eqEntry, eqEntryS, szEntryS. Lengths at most 2^20. -/
import Derived.Test.YtaaocnfbbajphaaSmall
import Derived.Test.YtaaocnfbbajphaaTp
import Derived.Test.YtaaocnfbbajphaaSl
import Derived.Deep.RegionHeld3
namespace Go.Proofs.Ytaaocnfbbajphaa
open Go.RowKit
set_option linter.unusedVariables false
set_option linter.unusedSimpArgs false

def cEntry (x : REntry) : List Value := [.int .i64 x.f0, .bool x.f1]
abbrev vEntry (x : REntry) : Value := .agg #[.int .i64 x.f0, .bool x.f1]
theorem cEntry_len (x : REntry) : (cEntry x).length = 2 := rfl
theorem posEntry : 0 < 2 := by decide
abbrev zEntry : REntry := ⟨0, false⟩
abbrev tsEntry (A : Option Addr) (n c : Nat) (xs : List REntry) : Thing := ⟨67, 2, A, n, c, J cEntry xs⟩
theorem Try.info67 : (Try.prog.info? 67).map (fun i => (i.zero, i.size, i.bytes)) = some (some (.agg #[.int .i64 0, .bool false]), 2, 16) := by kernel_rfl
theorem madeEntry (n : Nat) : (madeCells (Value.agg #[.int .i64 0, .bool false]).cells (n * 2)).toList = J cEntry (List.replicate n zEntry) := made_J (f := cEntry) (x := zEntry) cEntry_len posEntry rfl n
theorem atEntry {w : World} {A : Option Addr} {n k : Nat} {xs : List REntry} (h : Rd w 2 A n (J cEntry xs)) (hk : k < n) :
    ∃ b o x, A = some ⟨b, o, none⟩ ∧ b < w.heap.size ∧ Hid (xs[k]? = some x) ∧ w.cell? ⟨b, o + k * 2, none⟩ = some (.int .i64 x.f0) ∧ w.cell? ⟨b, o + k * 2 + 1, none⟩ = some (.bool x.f1) := by
  obtain ⟨b, o, x, hA, hb, hx, hc⟩ := h.atS posEntry cEntry_len hk
  exact ⟨b, o, x, hA, hb, hx, hc 0 _ rfl, by rw [Nat.add_assoc]; exact hc 1 _ rfl⟩
/-- at the place of the first that meets p, or -1 -/
def FndEntry (p : REntry → Bool) (l : List REntry) (r : Int) : Prop := (r = -1 ∧ l.any p = false) ∨ (∃ k : Nat, r = k ∧ l.any p = true)
set_option maxHeartbeats 2000000 in
theorem indexFuncEntry (K : Nat) (hK : ∀ (x : REntry) (w : World), (callFunc K #[vEntry x]).run Try.prog w = .ok (.enter K #[vEntry x]) w) (p : REntry → Bool) (hp : ∀ x w b, p x = b → Calls Try.prog K #[vEntry x] w fun e w' => e = .returned (.bool b) ∧ Below w.heap.size w w')
    (A : Option Addr) (n c : Nat) (xs : List REntry) (w : World) (hr : Rd w 2 A n (J cEntry xs)) (hn : n ≤ 4503599627370496) :
    Calls Try.prog 90 #[.slice A n c, .func (.func K) #[] #[]] w fun e w' => ∃ r, e = .returned (.int .i64 r) ∧ FndEntry p xs r ∧ Below w.heap.size w w' := by
  have hl := hr.lenS posEntry cEntry_len
  have HP := Lib.hid hp
  clear hp
  go_enter Try.func90, Try.ntmps90
  go_wp2
  go_loopw [5, 8] (fun j i wr => ∃ k : Nat, k ≤ n ∧ i = .int .i64 k ∧ Hid ((xs.take k).any p = false) ∧ Below w.heap.size w wr) (fun _ i _ => n - (intOf i).toNat)
  case atStart => exact ⟨0, Nat.zero_le _, rfl, by rfl, Below.refl _ _⟩
  case round =>
    obtain ⟨k, hk, rfl, ht, hB⟩ := hrel
    by_cases hlt : k < n
    · obtain ⟨b, o, x, rfl, hbl, hxk, hc0, hc1⟩ := atEntry (hr.keep hB) hlt
      cases hpx : p x
      all_goals have HX := Lib.hid hpx
      all_goals clear hpx
      · go_wp2_with fail
        refine (HP.out x _ _ HX.out).mono ?_
        rintro e w1 ⟨rfl, hb1⟩
        go_wp2
        go_roundw
        case rel => exact ⟨k + 1, by omega, by go_num, any_snocA ht.out hxk.out HX.out, below_next hB hb1⟩
        case measure => simp [intOf]; omega
      · go_wp2_with fail
        refine (HP.out x _ _ HX.out).mono ?_
        rintro e w1 ⟨rfl, hb1⟩
        go_wp2
        go_ret
        exact ⟨_, rfl, .inr ⟨k, rfl, List.any_eq_true.2 ⟨x, List.mem_of_getElem? hxk.out, HX.out⟩⟩, below_next hB hb1⟩
    · go_wp2
      go_ret
      refine ⟨_, rfl, .inl ⟨rfl, ?_⟩, hB⟩
      have := ht.out
      rwa [List.take_of_length_le (by omega)] at this

set_option maxHeartbeats 1000000 in
theorem containsFuncEntry (K : Nat) (hK : ∀ (x : REntry) (w : World), (callFunc K #[vEntry x]).run Try.prog w = .ok (.enter K #[vEntry x]) w) (p : REntry → Bool) (hp : ∀ x w b, p x = b → Calls Try.prog K #[vEntry x] w fun e w' => e = .returned (.bool b) ∧ Below w.heap.size w w')
    (A : Option Addr) (n c : Nat) (xs : List REntry) (w : World) (hr : Rd w 2 A n (J cEntry xs)) (hn : n ≤ 4503599627370496) (r : Bool) (hT : xs.any p = r) :
    Calls Try.prog 81 #[.slice A n c, .func (.func K) #[] #[]] w fun e w' => e = .returned (.bool r) ∧ Below w.heap.size w w' := by
  have HP := Lib.hid hp
  clear hp
  have HT := Lib.hid hT
  clear hT
  go_enter Try.func81, Try.ntmps81
  go_wp2_with fail
  refine (indexFuncEntry K hK p HP.out A n c xs _ hr hn).mono ?_
  rintro e w1 ⟨q, rfl, hq, hb1⟩
  rcases hq with ⟨rfl, h1⟩ | ⟨k, rfl, h5⟩
  · rw [HT.out] at h1
    subst h1
    go_wp2
    go_ret
    exact ⟨rfl, hb1⟩
  · rw [HT.out] at h5
    subst h5
    have h6 : (0 : Int) ≤ (k : Int) := by omega
    go_wp2
    go_ret
    exact ⟨rfl, hb1⟩

end Go.Proofs.Ytaaocnfbbajphaa
