/- Contracts of the small functions on lists of strings: markText, toStringS, eqStringS, markStringS, heldStringS. Lengths at most 2^20 where memory is made. -/
import Derived.Test.YtpgmkcnpbhalmaaSa
import Derived.Test.YtpgmkcnpbhalmaaSl
import Derived.Lib.ItoaNum
namespace Go.Proofs.Ytpgmkcnpbhalmaa
open Go.RowKit
set_option linter.unusedVariables false
set_option linter.unusedSimpArgs false

/-- a list of texts as cells -/
def T (ls : List (List UInt8)) : List Value := ls.map fun l => Value.string ⟨l.toArray⟩
theorem T_length (l : List (List UInt8)) : (T l).length = l.length := by simp [T]
theorem T_append (a b : List (List UInt8)) : T (a ++ b) = T a ++ T b := by simp [T]
theorem T_get {l : List (List UInt8)} {k : Nat} {x : List UInt8} (h : l[k]? = some x) : (T l)[k]? = some (.string ⟨x.toArray⟩) := by simp [T, h]
theorem T_set (l : List (List UInt8)) (k : Nat) (x : List UInt8) : (T l).set k (.string ⟨x.toArray⟩) = T (l.set k x) := by simp [T, List.map_set]
theorem T_one (l : List (List UInt8)) : ∀ u ∈ T l, u.oneCell' = true := by
  intro u hu
  obtain ⟨x, _, rfl⟩ := List.mem_map.1 hu
  rfl
theorem Try.info9 : (Try.prog.info? 9).map (fun i => (i.zero, i.size, i.bytes)) = some (some (.string ⟨#[]⟩), 1, 16) := by kernel_rfl
abbrev tt (A : Option Addr) (n c : Nat) (xs : List (List UInt8)) : Thing := ⟨9, 1, A, n, c, T xs⟩
theorem Rd.lenT {w : World} {A : Option Addr} {n : Nat} {xs : List (List UInt8)} (h : Rd w 1 A n (T xs)) : xs.length = n := by have := h.1; rw [T_length] at this; omega
theorem Rd.atT {w : World} {A : Option Addr} {n k : Nat} {xs : List (List UInt8)} (h : Rd w 1 A n (T xs)) (hk : k < n) :
    ∃ b o x, A = some ⟨b, o, none⟩ ∧ b < w.heap.size ∧ Hid (xs[k]? = some x) ∧ w.cell? ⟨b, o + k, none⟩ = some (.string ⟨x.toArray⟩) := by
  obtain ⟨b, o, hA, hb, hc⟩ := h.2 (by omega)
  have hl : xs.length = n := h.lenT
  have hx : xs[k]? = some (xs[k]'(by omega)) := List.getElem?_eq_getElem (by omega)
  exact ⟨b, o, _, hA, hb, hx, hc k _ (T_get hx)⟩
theorem ownT_nil (w : World) (B : Nat) : Own w B (tt none 0 0 []) := World.ownsRow_nil _ _ _ _
theorem ownT_cap {w : World} {B : Nat} {A : Option Addr} {n c : Nat} {xs : List (List UInt8)} (h : Own w B (tt A n c xs)) : n ≤ c ∧ c ≤ maxLen := own_cap h
theorem ownT_at {w : World} {B : Nat} {g n c k : Nat} {xs : List (List UInt8)} {x : List UInt8} (h : Own w B (tt (some ⟨g, 0, none⟩) n c xs)) (hx : xs[k]? = some x) (hk : k < n) : w.cell? ⟨g, k, none⟩ = some (.string ⟨x.toArray⟩) := by
  rw [World.ownsRow.cellAt h k (by simpa using hk)]
  exact T_get hx

/-- the sign of a number -/
def mkT (m : Int) : List UInt8 := 109 :: Lib.decDigits m.toNat
theorem dec_small {k : Nat} (h : k < 10) : Lib.decDigits k = [UInt8.ofNat (48 + k)] := by rw [Lib.decDigits, dif_pos h]
theorem dec_big {k : Nat} (h : ¬ k < 10) : Lib.decDigits k = Lib.decDigits (k / 10) ++ [UInt8.ofNat (48 + k % 10)] := by rw [Lib.decDigits, dif_neg h]
/-- the last digit of a number -/
def dgB (k : Nat) : UInt8 := UInt8.ofNat (48 + k % 10)
/-- what the loop of markText keeps -/
def MtInv (k0 k : Nat) (l : List UInt8) : Prop := (k = 0 → l = Lib.decDigits k0) ∧ (0 < k → Lib.decDigits k ++ l = Lib.decDigits k0)
theorem MtInv.step {k0 k : Nat} {l : List UInt8} (h : MtInv k0 k l) (hk : 0 < k) : MtInv k0 (k / 10) (dgB k :: l) := by
  show MtInv k0 (k / 10) (UInt8.ofNat (48 + k % 10) :: l)
  have h2 := h.2 hk
  by_cases hs : k < 10
  · refine ⟨fun _ => ?_, fun h0 => by omega⟩
    rw [dec_small hs] at h2
    rw [← h2, Nat.mod_eq_of_lt hs]; rfl
  · refine ⟨fun h0 => by omega, fun _ => ?_⟩
    rw [dec_big hs] at h2
    rw [← h2]; simp
theorem bytes1 (k : Nat) (w : World) (g c : Nat) (h : w.cell? ⟨g, 0, none⟩ = some (.int .u8 (48 + (k : Int) % 10))) :
    (convert 36 9 (.slice (some ⟨g, 0, none⟩) 1 c)).run Try.prog w = .ok (.string ⟨#[dgB k]⟩) w := by
  refine run_convert_bytes_back (P := Try.prog) w 36 9 5 ⟨g, 0, none⟩ c [UInt8.ofNat (48 + k % 10)] Try.underlying36 Try.underlying5 Try.underlying9 fun j hj => ?_
  have h0 : j = 0 := by simpa using hj
  subst h0
  have e : ((UInt8.ofNat (48 + k % 10)).toNat : Int) = 48 + (k : Int) % 10 := by
    have : (UInt8.ofNat (48 + k % 10)).toNat = 48 + k % 10 := by rw [UInt8.toNat_ofNat']; omega
    omega
  have hadd : (⟨g, 0, none⟩ : Addr).add 0 = ⟨g, 0, none⟩ := rfl
  rw [hadd]
  simp only [List.getElem_cons_zero]
  rw [e]; exact h
set_option maxHeartbeats 2000000 in
theorem markText_any (m : Int) (w : World) (h0 : 0 < m) (h1 : m ≤ 4503599637370496) :
    Calls Try.prog 29 #[.int .i64 m] w fun e w' => e = .returned (.string ⟨(mkT m).toArray⟩) ∧ Below w.heap.size w w' := by
  obtain ⟨k0, rfl⟩ := Int.eq_ofNat_of_zero_le (Int.le_of_lt h0)
  have hk1 : k0 ≤ 4503599637370496 := by omega
  go_enter Try.func29, Try.ntmps29
  go_wp2
  go_loopw [0, 3] (fun a s wr => ∃ (k : Nat) (l : List UInt8), a = .int .i64 k ∧ s = .string ⟨l.toArray⟩ ∧ l.length + k ≤ k0 ∧ Hid (MtInv k0 k l) ∧ Below w.heap.size w wr) (fun a _ _ => (intOf a).toNat)
  case atStart => exact ⟨k0, [], rfl, rfl, by simp, ⟨fun h => by omega, fun _ => by simp⟩, Below.refl _ _⟩
  case round =>
    obtain ⟨k, l, rfl, rfl, hlk, hI, hB⟩ := hrel
    by_cases hlt : 0 < k
    · have hcv := bytes1 k (wr.alloc (.cells #[.int .u8 (48 + (k : Int) % 10)] 5)) wr.heap.size 1 (by simp)
      have hsum : 1 + l.length ≤ 9223372036854775807 := by omega
      go_wp2
      go_roundw
      case rel => exact ⟨k / 10, dgB k :: l, congrArg (Value.int .i64) (by omega), congrArg Value.string (ByteArray.mk_append_mk [dgB k] l), by simp; omega, hI.out.step hlt, below_next hB (below_alloc _ _)⟩
      case measure => simp [intOf]; omega
    · have hk : k = 0 := by omega
      subst hk
      have hsum : 1 + l.length ≤ 9223372036854775807 := by omega
      go_wp2
      go_ret
      refine ⟨?_, hB⟩
      have := hI.out.1 rfl
      have e := congrArg Value.string (ByteArray.mk_append_mk [109] l)
      rw [mkT, Int.toNat_natCast, ← this]
      exact congrArg Ending.returned e

theorem madeT (n : Nat) : (madeCells (Value.string ⟨#[]⟩).cells (n * 1)).toList = T (List.replicate n []) := by
  show (madeCells #[Value.string ⟨#[]⟩] (n * 1)).toList = _
  rw [toList_madeCells_one, Nat.mul_one]; simp [T]
set_option maxHeartbeats 1000000 in
theorem toStringS_any (A : Option Addr) (n c : Nat) (xs : List (List UInt8)) (w : World) (hr : Rd w 1 A n (T xs)) (hn : n ≤ 1048576) :
    Calls Try.prog 20 #[.slice A n c] w fun e w' => ∃ A' c', e = .returned (.slice A' n c') ∧ Own w' w.heap.size (tt A' n c' xs) ∧ Below w.heap.size w w' := by
  have hlen := hr.lenT
  subst hlen
  obtain ⟨i0, hi, hz0, hz1, hz2⟩ := info_parts Try.info9
  go_enter Try.func20, Try.ntmps20
  go_wp2_with (at_make; refine wpList_make_full _ rfl _ _ 27 rfl w.heap.size 9 i0 (.string ⟨#[]⟩) 1 Try.underlying27 hi hz0 hz1 .i64 .i64 _ _ xs.length rfl rfl (by first | rfl | omega) (by first | rfl | omega) (by rw [hz2]; omega) (by unfold maxLen; omega) (Nat.le_refl _) ?_; intro w1 hown hgrow)
  rw [madeT] at hown
  have hb1 : Below w.heap.size w w1 := (Below.refl _ _).grown hgrow (Nat.le_refl _) (by simp)
  clear hgrow hi hz0 hz1 hz2
  go_loopw [4] (fun i wr => ∃ k : Nat, k ≤ xs.length ∧ i = .int .i64 k ∧ Own wr w.heap.size (tt (some ⟨w.heap.size, 0, none⟩) xs.length xs.length (xs.take k ++ List.replicate (xs.length - k) [])) ∧ Below w.heap.size w wr)
    (fun i _ => xs.length - (intOf i).toNat)
  case atStart => exact ⟨0, Nat.zero_le _, rfl, by simpa using hown, hb1⟩
  case round =>
    obtain ⟨k, hk, rfl, hO, hB⟩ := hrel
    by_cases hlt : k < xs.length
    · obtain ⟨b, o, x, rfl, hbl, hxk, hc⟩ := (hr.keep hB).atT hlt
      have hx : wr.cell? ⟨w.heap.size, k, none⟩ = some (.string ⟨#[]⟩) := ownT_at hO (fill_get xs [] k hlt) hlt
      have hf := World.ownsRow.frozenAt hO k
      have hs := (World.ownsRow.stored hO k (.string ⟨x.toArray⟩)).1
      rw [T_set, set_fillA xs [] k x hxk.out] at hs
      have HS := Lib.hid hs
      clear hs hO
      go_wp2
      go_roundw
      case rel => exact ⟨k + 1, by omega, by go_num, HS.out, hB.setCell (by simp) _⟩
      case measure => simp [intOf]; omega
    · have hkn : k = xs.length := by omega
      have HO := Lib.hid hO
      clear hO
      go_wp2
      go_ret
      refine ⟨_, _, rfl, ?_, hB⟩
      have := HO.out
      subst hkn
      simpa using this

set_option maxHeartbeats 1000000 in
theorem eqStringS_same (A A' : Option Addr) (n c c' : Nat) (xs : List (List UInt8)) (w : World) (hr : Rd w 1 A n (T xs)) (hr' : Rd w 1 A' n (T xs)) (hn : n ≤ 1048576) :
    Calls Try.prog 15 #[.slice A n c, .slice A' n c'] w fun e w' => e = .returned (.bool true) ∧ Below w.heap.size w w' := by
  have hnb : ((n : Int) != (n : Int)) = false := by simp
  go_enter Try.func15, Try.ntmps15
  go_wp2
  go_loopw [5] (fun i wr => ∃ k : Nat, k ≤ n ∧ i = .int .i64 k ∧ Below w.heap.size w wr) (fun i _ => n - (intOf i).toNat)
  case atStart => exact ⟨0, Nat.zero_le _, rfl, Below.refl _ _⟩
  case round =>
    obtain ⟨k, hk, rfl, hB⟩ := hrel
    clear hnb
    by_cases hlt : k < n
    · obtain ⟨b, o, x, rfl, hbl, hxk, hc⟩ := (hr.keep hB).atT hlt
      obtain ⟨b', o', y, rfl, hbl', hyk, hc'⟩ := (hr'.keep hB).atT hlt
      obtain rfl : x = y := Option.some.inj (hxk.out.symm.trans hyk.out)
      have h0 : (0 : Int) ≤ (k : Int) := by omega
      have h1 : (k : Int) < (n : Int) := by omega
      go_wp2
      go_quiet (fail)
      go_wp2
      go_roundw
      case rel => exact ⟨k + 1, by omega, by go_num, below_drewN hB _⟩
      case measure => simp [intOf]; omega
    · go_wp2
      go_ret
      exact ⟨rfl, hB⟩

def mksT (q : Int) (n : Nat) : List (List UInt8) := (List.range n).map fun i : Nat => mkT (q + (i : Int))
theorem mksT_length (q : Int) (n : Nat) : (mksT q n).length = n := by simp [mksT]
theorem mksT_get {q : Int} {n i : Nat} (h : i < n) : (mksT q n)[i]? = some (mkT (q + (i : Int))) := by simp [mksT, h]

set_option maxHeartbeats 2000000 in
theorem markStringS_any (A : Option Addr) (n c B : Nat) (xs : List (List UInt8)) (m : Int) (w : World) (ho : Own w B (tt A n c xs)) (hn : n ≤ 1048576) (hm0 : 1 ≤ m) (hm1 : m ≤ 4503599627370496) :
    Calls Try.prog 16 #[.slice A n c, .int .i64 m] w fun e w' => e = .returned (.int .i64 (m + n)) ∧ Own w' B (tt A n c (mksT m n)) ∧ w.grownBy w' (blk A) := by
  have hl : xs.length = n := ho.rd.lenT
  subst hl
  by_cases h0 : xs.length = 0
  · have hxs : xs = [] := List.eq_nil_of_length_eq_zero h0
    subst hxs
    go_enter Try.func16, Try.ntmps16
    go_wp2
    refine wp_loop_rounds 1 ?_
    rw [rounds_succ]
    go_wp2
    go_ret
    exact ⟨by simp, by simpa [mksT] using ho, World.grownBy.refl _ _⟩
  · obtain ⟨g, hA, hg1, hg2⟩ := own_someS ho (by omega)
    subst hA
    have HO := Lib.hid ho
    clear ho
    go_enter Try.func16, Try.ntmps16
    go_wp2
    go_loopw [1, 5] (fun a i wr => ∃ (k : Nat) (q : Int), k ≤ xs.length ∧ i = .int .i64 k ∧ a = .int .i64 q ∧ 1 ≤ q ∧ q ≤ 4503599637370496 ∧ Hid (q = m + (k : Int)) ∧ Own wr B (tt (some ⟨g, 0, none⟩) xs.length c ((mksT m xs.length).take k ++ xs.drop k)) ∧ w.grownBy wr (some g))
      (fun _ i _ => xs.length - (intOf i).toNat)
    case atStart => exact ⟨0, m, Nat.zero_le _, rfl, rfl, hm0, by omega, by show m = m + ((0 : Nat) : Int); omega, by simpa using HO.out, World.grownBy.refl _ _⟩
    case round =>
      obtain ⟨k, q, hk, rfl, rfl, hq0, hq1, hq, hO, hG⟩ := hrel
      by_cases hlt : k < xs.length
      · obtain ⟨x, hx⟩ : ∃ x, ((mksT m xs.length).take k ++ xs.drop k)[k]? = some x := by
          refine ⟨_, List.getElem?_eq_getElem ?_⟩
          simp [mksT_length]; omega
        have HX := Lib.hid hx
        have HOO := Lib.hid hO
        clear hx hO
        go_wp2_with fail
        refine (markText_any q _ (by omega) (by omega)).mono ?_
        rintro e w2 ⟨rfl, hb2⟩
        have hO2 : Own w2 B (tt (some ⟨g, 0, none⟩) xs.length c ((mksT m xs.length).take k ++ xs.drop k)) := World.ownsRow.kept (row := none) HOO.out (grown_of_below hb2 _) (by right; rw [ownBlock_slice]; simp [blk])
        have hy := ownT_at hO2 HX.out hlt
        have hfz := World.ownsRow.frozenAt hO2 k
        have hs := World.ownsRow.stored hO2 k (.string ⟨(mkT q).toArray⟩)
        have hmix : ((mksT m xs.length).take k ++ xs.drop k).set k (mkT q) = (mksT m xs.length).take (k + 1) ++ xs.drop (k + 1) :=
          set_mix _ xs k _ (by rw [hq.out]; exact mksT_get hlt) hlt
        rw [T_set, hmix] at hs
        have HS := Lib.hid hs
        have HG := Lib.hid (World.grownBy.trans hG (World.grownBy.trans (grown_of_below hb2 (some g)) hs.2))
        clear hs hO2 hmix
        go_wp2
        go_roundw
        case rel => exact ⟨k + 1, q + 1, by omega, by go_num, rfl, by omega, by have := hq.out; omega, by have := hq.out; show q + 1 = m + ((k + 1 : Nat) : Int); omega, HS.out.1, HG.out⟩
        case measure => simp [intOf]; omega
      · have hkn : k = xs.length := by omega
        have HO := Lib.hid hO
        clear hO
        go_wp2
        go_ret
        have := HO.out
        subst hkn
        refine ⟨ret_int hq.out, ?_, hG⟩
        have e : (mksT m xs.length).take xs.length ++ xs.drop xs.length = mksT m xs.length := by simp [List.take_of_length_le (Nat.le_of_eq (mksT_length m xs.length))]
        rw [e] at this
        exact this

set_option maxHeartbeats 2000000 in
theorem heldStringS_marks (A : Option Addr) (n c : Nat) (m : Int) (w : World) (hr : Rd w 1 A n (T (mksT m n))) (hn : n ≤ 1048576) (hm0 : 1 ≤ m) (hm1 : m ≤ 4503599627370496) :
    Calls Try.prog 17 #[.slice A n c, .int .i64 m] w fun e w' => e = .returned (.int .i64 (m + n)) ∧ Below w.heap.size w w' := by
  go_enter Try.func17, Try.ntmps17
  go_wp2
  go_loopw [1, 5] (fun a i wr => ∃ (k : Nat) (q : Int), k ≤ n ∧ i = .int .i64 k ∧ a = .int .i64 q ∧ 1 ≤ q ∧ q ≤ 4503599637370496 ∧ Hid (q = m + (k : Int)) ∧ Below w.heap.size w wr) (fun _ i _ => n - (intOf i).toNat)
  case atStart => exact ⟨0, m, Nat.zero_le _, rfl, rfl, hm0, by omega, by show m = m + ((0 : Nat) : Int); omega, Below.refl _ _⟩
  case round =>
    obtain ⟨k, q, hk, rfl, rfl, hq0, hq1, hq, hB⟩ := hrel
    by_cases hlt : k < n
    · obtain ⟨b, o, x, rfl, hbl, hxk, hc⟩ := (hr.keep hB).atT hlt
      obtain rfl : x = mkT q := by
        have := hxk.out
        rw [mksT_get hlt, ← hq.out] at this
        exact (Option.some.inj this).symm
      have e0 : ∀ p : Ext wr, p.1.cell? ⟨b, o + k, none⟩ = some (.string ⟨(mkT q).toArray⟩) := fun p => (Ext.cell b hbl p _).trans hc
      have h0 : (0 : Int) ≤ (k : Int) := by omega
      have h1 : (k : Int) < (n : Int) := by omega
      clear hc
      go_wp2_with fail
      refine wp_region_ext (by kernel_rfl) (by kernel_rfl) ?_
      repeat (go_big_quiet_step ((go_at_call 29; refine calls_ext (markText_any q _ (by omega) (by omega)))))
      refine wpQuiet_nil ?_
      rintro _ ⟨⟨w1, hb1⟩, rfl⟩
      go_wp2
      go_roundw
      case rel => exact ⟨k + 1, q + 1, by omega, by go_num, rfl, by omega, by have := hq.out; omega, by have := hq.out; show q + 1 = m + ((k + 1 : Nat) : Int); omega, below_next hB hb1⟩
      case measure => simp [intOf]; omega
    · have hkn : k = n := by omega
      subst hkn
      go_wp2
      go_ret
      exact ⟨ret_int hq.out, hB⟩
end Go.Proofs.Ytpgmkcnpbhalmaa
