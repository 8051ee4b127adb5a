/- Contracts of JoinStrings in the program and in the reference, and of szStringS. The whole result at most 2^20 bytes where it is made. -/
import Derived.Test.YtppnmpkefchknaaSp
import Derived.Test.YtppnmpkefchknaaShelf
import Derived.Lib.IndexLaws
namespace Go.Proofs.Ytppnmpkefchknaa
open Go.RowKit
set_option linter.unusedVariables false
set_option linter.unusedSimpArgs false

/-- a byte stands in a text -/
def stB (b : UInt8) (l : List UInt8) : Bool := l.any (· == b)
def joiOk (xs : List (List UInt8)) (m : List UInt8) : Bool := decide (m.length = 1) && (!xs.isEmpty && (!xs.any (stB (m.headD 0)) && decide (Lib.lens xs + xs.length ≤ 4001)))
def joiL (xs : List (List UInt8)) (m : List UInt8) : List UInt8 := Lib.join xs m
theorem join_snoc (l : List (List UInt8)) (y sep : List UInt8) : Lib.join (l ++ [y]) sep = if l = [] then y else Lib.join l sep ++ sep ++ y := by
  cases l with
  | nil => simp [Lib.join_one]
  | cons x r =>
    rw [if_neg (by simp), List.cons_append, Lib.join_cons, Lib.join_cons]
    simp [Lib.joinTail, List.append_assoc]
theorem join_len (b : UInt8) (x : List UInt8) (r : List (List UInt8)) : (Lib.join (x :: r) [b]).length + 1 = Lib.lens (x :: r) + (r.length + 1) := by
  rw [Lib.join_cons, List.length_append]
  have : (Lib.joinTail [b] r).length = Lib.lens r + r.length := by
    induction r with
    | nil => simp [Lib.joinTail, Lib.lens]
    | cons y r ih =>
      simp only [Lib.joinTail, Lib.lens, List.map_cons, List.flatten_cons, List.length_append, List.length_cons, List.sum_cons, List.length_nil] at ih ⊢
      omega
  rw [this]
  simp [Lib.lens]; omega
theorem stB_index (b : UInt8) (l : List UInt8) : (stB b l = true ∧ 0 ≤ Lib.indexByte l b) ∨ (stB b l = false ∧ Lib.indexByte l b = -1) := by
  by_cases h : Lib.indexByte l b = -1
  · refine .inr ⟨?_, h⟩
    unfold stB
    rw [List.any_eq_false]
    intro x hx
    obtain ⟨k, hk⟩ := List.getElem?_of_mem hx
    have := Lib.indexByte_none h k
    simp only [beq_iff_eq]
    intro e
    exact this (by rw [hk, e])
  · have := Lib.indexByte_ge l b
    obtain ⟨o, ho⟩ := Int.eq_ofNat_of_zero_le (a := Lib.indexByte l b) (by omega)
    refine .inl ⟨?_, by omega⟩
    exact List.any_eq_true.2 ⟨b, List.mem_of_getElem? (Lib.indexByte_some ho).1, by simp⟩

set_option maxHeartbeats 1000000 in
theorem l1Stands_any (l : List UInt8) (b : UInt8) (w : World) (hn : l.length ≤ 1048576) (r : Bool) (hr : stB b l = r) :
    Calls Try.prog 52 #[.string ⟨l.toArray⟩, .int .u8 (b.toNat : Int)] w fun e w' => e = .returned (.bool r) ∧ w = w' := by
  have HR := Lib.hid hr
  clear hr
  go_enter Try.func52, Try.ntmps52
  go_wp2
  go_loop [5] (fun i => ∃ k : Nat, k ≤ l.length ∧ i = .int .i64 k ∧ Hid (stB b (l.take k) = false)) (fun i => l.length - (intOf i).toNat)
  case atStart => exact ⟨0, Nat.zero_le _, rfl, rfl⟩
  case round =>
    obtain ⟨k, hk, rfl, hs⟩ := hrel
    by_cases hlt : k < l.length
    · obtain ⟨c, hc⟩ : ∃ c, l[k]? = some c := ⟨_, List.getElem?_eq_getElem hlt⟩
      have hix := str_at l hc
      have HC := Lib.hid hc
      clear hc
      by_cases hcb : c = b
      · have hq : ((c.toNat : Int) == (b.toNat : Int)) = true := by rw [hcb]; simp
        have HX := Lib.hid (show stB b l = true from List.any_eq_true.2 ⟨c, List.mem_of_getElem? HC.out, by simp [hcb]⟩)
        clear hcb
        go_wp2
        go_ret
        exact ⟨ret_bool (by rw [← HR.out, HX.out]), rfl⟩
      · have hq : ((c.toNat : Int) == (b.toNat : Int)) = false := by
          simp; intro e; exact hcb (UInt8.toNat_inj.1 (by omega))
        have HX := Lib.hid (show stB b (l.take (k + 1)) = false by rw [take_snocA HC.out, stB, List.any_append]; have := hs.out; unfold stB at this; rw [this]; simp [hcb])
        clear hcb
        go_wp2
        go_round
        case rel => exact ⟨k + 1, by omega, by go_num, HX.out⟩
        case measure => simp [intOf]; omega
    · go_wp2
      go_ret
      refine ⟨ret_bool ?_, rfl⟩
      have := hs.out
      rw [List.take_of_length_le (by omega)] at this
      rw [← HR.out, this]

theorem any_snocT {b : UInt8} {xs : List (List UInt8)} {k : Nat} {x : List UInt8} (h : (xs.take k).any (stB b) = false) (hx : xs[k]? = some x) (hp : stB b x = false) : (xs.take (k + 1)).any (stB b) = false := any_snocA h hx hp
theorem lens_mem {xs : List (List UInt8)} {x : List UInt8} (h : x ∈ xs) : x.length ≤ Lib.lens xs := by
  induction xs with
  | nil => cases h
  | cons y r ih =>
    simp only [Lib.lens, List.map_cons, List.sum_cons] at ih ⊢
    rcases List.mem_cons.1 h with rfl | h
    · omega
    · have := ih h; omega

def SzT (n : Nat) (xs : List (List UInt8)) (w : World) (e : Ending) (w' : World) : Prop := ∃ r : Int, e = .returned (.int .i64 r) ∧ w = w' ∧ (r < 0 ∨ (0 ≤ r ∧ n + Lib.lens xs ≤ 1048576))
theorem ixB_eq {x : List UInt8} {b : UInt8} {r : Int} (h : Lib.indexByte x b = r) (w : World) :
    Calls Try.prog 50 #[.string ⟨x.toArray⟩, .int .u8 (b.toNat : Int)] w fun e w' => e = .returned (.int .i64 r) ∧ w = w' := by
  refine (Try.strings_IndexByte ⟨x.toArray⟩ (b.toNat : Int) w).mono fun e w' ⟨he, hw⟩ => ⟨?_, hw.symm⟩
  have e1 : ((b.toNat : Int)).toNat.toUInt8 = b := by simp
  rw [he, e1, ← h]
theorem joiOk_long {xs : List (List UInt8)} {b : UInt8} (h : 4001 < Lib.lens xs + xs.length) : joiOk xs [b] = false := by
  have : ¬ Lib.lens xs + xs.length ≤ 4001 := by omega
  simp [joiOk, this]
theorem joiOk_st {xs : List (List UInt8)} {b : UInt8} {x : List UInt8} (hx : x ∈ xs) (h : stB b x = true) : joiOk xs [b] = false := by
  have : xs.any (stB b) = true := List.any_eq_true.2 ⟨x, hx, h⟩
  simp [joiOk, this]
theorem joiOk_yes {xs : List (List UInt8)} {b : UInt8} (hx : xs ≠ []) (h : xs.any (stB b) = false) (h2 : Lib.lens xs + xs.length ≤ 4001) : joiOk xs [b] = true := by
  have e : xs.isEmpty = false := by cases xs with | nil => exact absurd rfl hx | cons _ _ => rfl
  simp only [joiOk, List.headD_cons, h, e, h2]
  rfl

set_option maxHeartbeats 4000000 in
theorem i_JoinStrings_any (A : Option Addr) (n c : Nat) (xs : List (List UInt8)) (m : List UInt8) (w : World) (hr : Rd w 1 A n (T xs)) (hn : n ≤ 1048576) (hL : Lib.lens xs ≤ 1048576) (hnc : n ≤ c) (hm : m.length ≤ 1048576) :
    Calls Try.prog 10 #[.slice A n c, .string ⟨m.toArray⟩] w fun e w' => e = .returned (.tuple #[.string (selB (joiOk xs m) (joiL xs m)), .bool (joiOk xs m)]) ∧ Below w.heap.size w w' := by
  have hl := hr.lenT
  subst hl
  by_cases h0 : xs = []
  · subst h0
    have e0 := Lib.hid (show joiOk [] m = false by simp [joiOk])
    go_enter Try.func10, Try.ntmps10
    go_wp2
    go_ret2
    rw [e0.out]
    exact ⟨rfl, Below.refl _ _⟩
  · have hpos : 0 < xs.length := List.length_pos_iff.2 h0
    have HN := Lib.hid h0
    clear h0
    have hne0 : ((xs.length : Int) == 0) = false := by rw [beq_eq_false_iff_ne]; omega
    by_cases h1 : m.length = 1
    rotate_left
    · have h4 : ((m.length : Int) != 1) = true := by simp; omega
      have e0 := Lib.hid (show joiOk xs m = false by simp [joiOk, h1])
      clear h1
      go_enter Try.func10, Try.ntmps10
      go_wp2
      go_ret2
      rw [e0.out]
      exact ⟨rfl, Below.refl _ _⟩
    obtain ⟨b, rfl⟩ : ∃ b, m = [b] := by
      match m, h1 with
      | [b], _ => exact ⟨b, rfl⟩
    clear h1 hm
    have hix0 : ∀ w : World, (Instr.index 9 (.string ⟨#[b]⟩) (.int .i64 0)).run Try.prog w = .ok (.int .u8 (b.toNat : Int)) w := fun w => str_at [b] (k := 0) rfl w
    go_enter Try.func10, Try.ntmps10
    go_wp2
    go_loop [6, 8, 22] (fun s p i => ∃ (k z : Nat), k ≤ xs.length ∧ i = .int .i64 k ∧ s = .int .i64 z ∧ z ≤ 2097152 ∧ Hid (z + 1 = xs.length + Lib.lens (xs.take k)) ∧ Hid (0 < k → z ≤ 4000) ∧ Hid ((xs.take k).any (stB b) = false)) (fun _ _ i => xs.length - (intOf i).toNat)
    case atStart => exact ⟨0, xs.length - 1, Nat.zero_le _, rfl, congrArg (Value.int .i64) (by omega), by omega, by show _ = _; simp [Lib.lens]; omega, fun h => by omega, by rfl⟩
    case round =>
      obtain ⟨k, z, hk, rfl, rfl, hz, hz1, hz2, hs⟩ := hrel
      by_cases hlt : k < xs.length
      · obtain ⟨bb, o, x, rfl, hbl, hxk, hc⟩ := hr.atT hlt
        have hmem := List.mem_of_getElem? hxk.out
        have hxl := lens_mem hmem
        have HM := Lib.hid hmem
        clear hmem
        have HU := Lib.hid (Lib.lens_take_succ xs k x hxk.out)
        by_cases hbig : 4000 < z + x.length
        · have hbig' : (4000 : Int) < (z : Int) + (x.length : Int) := by omega
          have e0 := Lib.hid (joiOk_long (b := b) (xs := xs) (by have := Lib.lens_take_le xs (k + 1); have := HU.out; have := hz1.out; omega))
          go_wp2
          go_ret2
          rw [e0.out]
          exact ⟨rfl, Below.refl _ _⟩
        · have hbig' : ¬ (4000 : Int) < (z : Int) + (x.length : Int) := by omega
          rcases stB_index b x with ⟨hst, hi⟩ | ⟨hst, hi⟩
          · have HST := Lib.hid hst
            clear hst
            obtain ⟨r, hre⟩ : ∃ r, Lib.indexByte x b = r := ⟨_, rfl⟩
            rw [hre] at hi
            have HRE := Lib.hid hre
            have e0 := Lib.hid (joiOk_st HM.out HST.out)
            clear hre
            go_wp2_with fail
            refine (ixB_eq HRE.out _).mono ?_
            rintro e w1 ⟨rfl, rfl⟩
            go_wp2
            go_ret2
            rw [e0.out]
            exact ⟨rfl, Below.refl _ _⟩
          · have HST := Lib.hid hst
            have HRE := Lib.hid hi
            clear hst hi
            go_wp2_with fail
            refine (ixB_eq HRE.out _).mono ?_
            rintro e w1 ⟨rfl, rfl⟩
            go_wp2
            go_round
            case rel => exact ⟨k + 1, z + x.length, by omega, by go_num, by go_num, by omega, by have := hz1.out; have := HU.out; show _ = _; omega, fun _ => by omega, any_snocT hs.out hxk.out HST.out⟩
            case measure => simp [intOf]; omega
      · have hkl : k = xs.length := by omega
        subst hkl
        obtain ⟨bb, o, rfl, hbl, hcs⟩ := hr.2 hpos
        have hs' := hs.out
        have hz1' := hz1.out
        rw [List.take_length] at hs' hz1'
        have e0 := Lib.hid (joiOk_yes HN.out hs' (by have := hz2.out hpos; omega))
        have hjl : (Lib.join xs [b]).length ≤ 4000 := by
          have := hz2.out hpos
          cases xs with
          | nil => exact absurd rfl HN.out
          | cons x r => have := join_len b x r; simp only [List.length_cons] at hz1'; omega
        have HJ := Lib.hid hjl
        have HC := Lib.hid hcs
        clear hs' hz1' hjl hcs
        have hjoin := Try.strings_Join bb o c (xs.map fun l => (⟨l.toArray⟩ : ByteArray)) ⟨#[b]⟩ w (fun j x hx => by
          rw [List.getElem?_map] at hx
          obtain ⟨l, hl, rfl⟩ := Option.map_eq_some_iff.1 hx
          exact HC.out j _ (T_get hl)) hbl (by simp; omega) (by simpa using hnc) (by
          simp only [List.map_map, Function.comp_def, List.toList_toArray, List.map_id']
          have := HJ.out
          show (Lib.join xs [b]).length ≤ _
          omega)
        simp only [List.length_map, List.map_map, Function.comp_def, List.toList_toArray, List.map_id'] at hjoin
        have HJJ := Lib.hid hjoin
        clear hjoin
        go_wp2_with fail
        refine (HJJ.out).mono ?_
        rintro e w1 ⟨rfl, hb⟩
        go_wp2
        go_ret2
        rw [e0.out]
        exact ⟨rfl, hb⟩

theorem str_two (o x : List UInt8) : Value.string (⟨o.toArray⟩ ++ ⟨x.toArray⟩) = .string ⟨(o ++ x).toArray⟩ := congrArg Value.string (ByteArray.mk_append_mk o x)
theorem str_three (o x : List UInt8) (b : UInt8) : Value.string ((⟨o.toArray⟩ ++ ⟨#[b]⟩) ++ ⟨x.toArray⟩) = .string ⟨(o ++ [b] ++ x).toArray⟩ := by
  have e : (⟨o.toArray⟩ ++ ⟨#[b]⟩ : ByteArray) = ⟨(o ++ [b]).toArray⟩ := ByteArray.mk_append_mk o [b]
  rw [e]; exact str_two _ _
/-- what the loop of the reference keeps -/
def JsInv (w : World) (xs : List (List UInt8)) (b : UInt8) (k : Nat) (s : Value) (wr : World) : Prop :=
  ∃ o : List UInt8, s = .string ⟨o.toArray⟩ ∧ o.length ≤ 4000 ∧ Hid (o = Lib.join (xs.take k) [b]) ∧ Hid ((xs.take k).any (stB b) = false) ∧ Below w.heap.size w wr
theorem JsInv.len {xs : List (List UInt8)} {b : UInt8} {k : Nat} {x o o' : List UInt8} (hx : xs[k]? = some x) (ho : o = Lib.join (xs.take k) [b]) (ho' : o' = if k = 0 then x else o ++ [b] ++ x) : o' = Lib.join (xs.take (k + 1)) [b] ∧ o'.length ≤ Lib.lens xs + xs.length - 1 := by
  have hlt := (List.getElem?_eq_some_iff.1 hx).1
  have e : o' = Lib.join (xs.take (k + 1)) [b] := by
    rw [take_snocA hx, join_snoc, ho', ho]
    cases k with
    | zero => simp
    | succ k =>
      cases xs with
      | nil => simp at hlt
      | cons y r => simp
  refine ⟨e, ?_⟩
  have h1 := Lib.lens_take_le xs (k + 1)
  cases xs with
  | nil => simp at hlt
  | cons y r =>
    rw [e, List.take_succ_cons]
    have h2 := join_len b y (r.take k)
    rw [List.take_succ_cons] at h1
    have h3 : (r.take k).length ≤ r.length := by simp; omega
    simp only [List.length_cons] at hlt ⊢
    omega

set_option maxHeartbeats 4000000 in
theorem s_JoinStrings_any (A : Option Addr) (n c : Nat) (xs : List (List UInt8)) (m : List UInt8) (w : World) (hr : Rd w 1 A n (T xs)) (hn : n ≤ 1048576) (hL : Lib.lens xs ≤ 1048576) (hm : m.length ≤ 1048576) :
    Calls Try.prog 11 #[.slice A n c, .string ⟨m.toArray⟩] w fun e w' => e = .returned (.tuple #[.string (selB (joiOk xs m) (joiL xs m)), .bool (joiOk xs m)]) ∧ Below w.heap.size w w' := by
  have hl := hr.lenT
  subst hl
  by_cases h1 : m.length = 1
  rotate_left
  · have h4 : ((m.length : Int) != 1) = true := by simp; omega
    have e0 := Lib.hid (show joiOk xs m = false by simp [joiOk, h1])
    clear h1
    go_enter Try.func11, Try.ntmps11
    go_wp2
    go_ret2
    rw [e0.out]
    exact ⟨rfl, Below.refl _ _⟩
  obtain ⟨b, rfl⟩ : ∃ b, m = [b] := by
    match m, h1 with
    | [b], _ => exact ⟨b, rfl⟩
  clear h1 hm
  by_cases h0 : xs = []
  · subst h0
    have e0 := Lib.hid (show joiOk [] [b] = false by simp [joiOk])
    go_enter Try.func11, Try.ntmps11
    go_wp2
    go_ret2
    rw [e0.out]
    exact ⟨rfl, Below.refl _ _⟩
  have hpos : 0 < xs.length := List.length_pos_iff.2 h0
  have HN := Lib.hid h0
  clear h0
  have hne0 : ((xs.length : Int) == 0) = false := by rw [beq_eq_false_iff_ne]; omega
  have hix0 : ∀ w : World, (Instr.index 9 (.string ⟨#[b]⟩) (.int .i64 0)).run Try.prog w = .ok (.int .u8 (b.toNat : Int)) w := fun w => str_at [b] (k := 0) rfl w
  go_enter Try.func11, Try.ntmps11
  go_wp2
  go_loopw [6, 7] (fun s i wr => ∃ k : Nat, k ≤ xs.length ∧ i = .int .i64 k ∧ JsInv w xs b k s wr) (fun _ i _ => xs.length - (intOf i).toNat)
  case atStart => exact ⟨0, Nat.zero_le _, rfl, [], rfl, Nat.zero_le _, rfl, rfl, Below.refl _ _⟩
  case round =>
    obtain ⟨k, hk, rfl, o, rfl, hol, hoj, hs, hB⟩ := hrel
    by_cases hlt : k < xs.length
    · obtain ⟨bb, of, x, rfl, hbl, hxk, hc⟩ := (hr.keep hB).atT hlt
      have hmem := List.mem_of_getElem? hxk.out
      have hxl := lens_mem hmem
      have HM := Lib.hid hmem
      clear hmem
      have e0x : ∀ p : Ext wr, p.1.cell? ⟨bb, of + k, none⟩ = some (.string ⟨x.toArray⟩) := fun p => (Ext.cell bb hbl p _).trans hc
      have h0 : (0 : Int) ≤ (k : Int) := by omega
      have h1 : (k : Int) < (xs.length : Int) := by omega
      cases hst : stB b x
      rotate_left
      · have HST := Lib.hid hst
        have e0 := Lib.hid (joiOk_st HM.out hst)
        clear hst
        go_wp2_with fail
        refine wp_region_ext (by kernel_rfl) (by kernel_rfl) ?_
        repeat (go_big_quiet_step ((go_at_call 52; refine calls_ext_same (l1Stands_any x b _ (by omega) _ HST.out))))
        refine wpQuiet_nil ?_
        rintro w1 ⟨⟨_, hb1⟩, rfl⟩
        go_wp2
        go_ret2
        rw [e0.out]
        exact ⟨rfl, below_next hB hb1⟩
      · have HST := Lib.hid hst
        clear hst
        go_wp2_with fail
        refine wp_region_ext (by kernel_rfl) (by kernel_rfl) ?_
        repeat (go_big_quiet_step ((go_at_call 52; refine calls_ext_same (l1Stands_any x b _ (by omega) _ HST.out))))
        refine wpQuiet_nil ?_
        rintro w1 ⟨⟨_, hb1⟩, rfl⟩
        have hc1 : w1.cell? ⟨bb, of + k, none⟩ = some (.string ⟨x.toArray⟩) := e0x ⟨w1, hb1⟩
        clear e0x hc
        by_cases hk0 : k = 0
        · subst hk0
          rw [Nat.add_zero] at hc1
          have ho0 : o = [] := hoj.out
          have HJ := Lib.hid (JsInv.len hxk.out hoj.out (o' := x) (by simp))
          subst ho0
          have hsum : 0 + x.length ≤ 9223372036854775807 := by omega
          by_cases hbig : 4000 < x.length
          · have hbig' : (4000 : Int) < (x.length : Int) := by omega
            have e0 := Lib.hid (joiOk_long (b := b) (xs := xs) (by have := HJ.out.2; omega))
            go_wp2
            go_ret2
            rw [e0.out]
            exact ⟨rfl, below_next hB hb1⟩
          · have hbig' : ¬ (4000 : Int) < (x.length : Int) := by omega
            go_wp2
            go_roundw
            case rel => exact ⟨1, by omega, rfl, x, by simpa using str_two [] x, by omega, HJ.out.1, any_snocT hs.out hxk.out HST.out, below_next hB hb1⟩
            case measure => simp [intOf]; omega
        · have hkp : (0 : Int) < (k : Int) := by omega
          have HJ := Lib.hid (JsInv.len hxk.out hoj.out (o' := o ++ [b] ++ x) (by simp [hk0]))
          have hsum : o.length + 1 ≤ 9223372036854775807 := by omega
          have hsum2 : o.length + 1 + x.length ≤ 9223372036854775807 := by omega
          by_cases hbig : 4000 < o.length + 1 + x.length
          · have hbig' : (4000 : Int) < (o.length : Int) + 1 + (x.length : Int) := by omega
            have e0 := Lib.hid (joiOk_long (b := b) (xs := xs) (by have := HJ.out.2; simp at this; omega))
            go_wp2
            go_ret2
            rw [e0.out]
            exact ⟨rfl, below_next hB hb1⟩
          · have hbig' : ¬ (4000 : Int) < (o.length : Int) + 1 + (x.length : Int) := by omega
            go_wp2
            go_roundw
            case rel => exact ⟨k + 1, by omega, by go_num, o ++ [b] ++ x, str_three o x b, by simp; omega, HJ.out.1, any_snocT hs.out hxk.out HST.out, below_next hB hb1⟩
            case measure => simp [intOf]; omega
    · have hkl : k = xs.length := by omega
      subst hkl
      have hs' := hs.out
      have hoj' := hoj.out
      rw [List.take_length] at hs' hoj'
      have e0 := Lib.hid (joiOk_yes HN.out hs' (by
        cases xs with
        | nil => exact absurd rfl HN.out
        | cons x r => have := join_len b x r; rw [← hoj'] at this; simp only [List.length_cons]; omega))
      have HO := Lib.hid hoj'
      clear hs' hoj'
      go_wp2
      go_ret2
      rw [e0.out, HO.out]
      exact ⟨rfl, hB⟩
end Go.Proofs.Ytppnmpkefchknaa
