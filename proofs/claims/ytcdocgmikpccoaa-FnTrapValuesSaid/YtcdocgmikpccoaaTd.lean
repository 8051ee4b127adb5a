/- Contracts of areWords, l5Registers, lowest, l5Part, StoredValue and LoadValue. Lengths at most 2^20. -/
import Derived.Test.YtcdocgmikpccoaaTb
import Derived.Laws.BitsAllLaws
import Derived.Laws.BitsLemmas
import Derived.Deep.RegionWith
namespace Go.Proofs.Ytcdocgmikpccoaa
open Go.RowKit
set_option linter.unusedVariables false
set_option linter.unusedSimpArgs false

/-- four words -/
def regB (rs : List Int) : Bool := rs.length == 4 && !rs.any (fun x => !inB x 0 65535)
theorem regB_len {rs : List Int} (h : regB rs = true) : rs.length = 4 := by simp only [regB, Bool.and_eq_true, beq_iff_eq] at h; exact h.1
theorem regB_at {rs : List Int} (h : regB rs = true) {k : Nat} {x : Int} (hx : rs[k]? = some x) : 0 ≤ x ∧ x ≤ 65535 := by
  simp only [regB, Bool.and_eq_true] at h
  have h2 := h.2
  rw [Bool.not_eq_true', List.any_eq_false] at h2
  have := h2 x (List.mem_of_getElem? hx)
  simp at this
  exact inB_iff.1 this

set_option maxHeartbeats 400000 in
theorem areWords1_any (x : Int) (w : World) :
    Calls Try.prog 124 #[.int .i64 x] w fun e w' => e = .returned (.bool (!(inB x 0 65535))) ∧ w = w' := by
  go_enter Try.func124, Try.ntmps124
  go_wp2_with fail
  refine (isWord16_any _ _).mono ?_
  rintro e w1 ⟨rfl, rfl⟩
  go_wp2
  go_ret
  exact ⟨rfl, rfl⟩

set_option maxHeartbeats 400000 in
theorem areWords_eq (A : Option Addr) (n c : Nat) (rs : List Int) (w : World) (hr : Rd w 1 A n (I rs)) (hn : n ≤ 1048576) (r : Bool) (hR : regB rs = r) :
    Calls Try.prog 87 #[.slice A n c] w fun e w' => e = .returned (.bool r) ∧ w = w' := by
  have hl := hr.len
  unfold regB at hR
  rw [hl] at hR
  by_cases h4 : n = 4
  · subst h4
    cases hP : rs.any (fun x => !inB x 0 65535)
    all_goals have HP := Lib.hid hP
    all_goals rw [hP] at hR
    all_goals clear hP
    all_goals subst hR
    all_goals
      go_enter Try.func87, Try.ntmps87
      go_wp2_with fail
      refine (containsFunc_any _ (fun _ _ => by kernel_rfl) (fun x => !inB x 0 65535) (fun x w b hb => by subst hb; exact areWords1_any x w) _ _ _ rs _ hr (by omega) _ HP.out).mono ?_
      rintro e w1 ⟨rfl, rfl⟩
      go_wp2
      go_ret
      exact ⟨rfl, rfl⟩
  · have hne : ((n : Int) == 4) = false := by simp; omega
    have hr0 : r = false := by rw [← hR]; simp [h4]
    subst hr0
    clear hR hl
    go_enter Try.func87, Try.ntmps87
    go_wp2
    go_ret
    exact ⟨rfl, rfl⟩

set_option maxHeartbeats 400000 in
theorem l5Registers_eq (A : Option Addr) (n c : Nat) (rs : List Int) (w : World) (hr : Rd w 1 A n (I rs)) (hn : n ≤ 1048576) (r : Bool) (hR : regB rs = r) :
    Calls Try.prog 92 #[.slice A n c] w fun e w' => e = .returned (.bool r) ∧ w = w' := by
  have hl := hr.len
  have HR := Lib.hid hR
  clear hR
  go_enter Try.func92, Try.ntmps92
  go_wp2
  go_loop [3] (fun i => ∃ k : Nat, k ≤ n ∧ i = .int .i64 k ∧ Hid ((rs.take k).any (fun x => !inB x 0 65535) = false)) (fun i => n - (intOf i).toNat)
  case atStart => exact ⟨0, Nat.zero_le _, rfl, by rfl⟩
  case round =>
    obtain ⟨k, hk, rfl, ht⟩ := hrel
    by_cases hlt : k < n
    · obtain ⟨b, o, x, rfl, hbl, hxk, hc⟩ := hr.at_ hlt
      cases hpx : inB x 0 65535
      all_goals have HX := Lib.hid hpx
      all_goals clear hpx
      · go_wp2_with fail
        refine (l1In_eq HX.out _).mono ?_
        rintro e w1 ⟨rfl, rfl⟩
        go_wp2
        go_ret
        refine ⟨ret_bool ?_, rfl⟩
        have h5 := any_hit (p := fun x => !inB x 0 65535) hxk.out (by simp [HX.out])
        rw [← HR.out, regB, h5]
        simp
      · go_wp2_with fail
        refine (l1In_eq HX.out _).mono ?_
        rintro e w1 ⟨rfl, rfl⟩
        go_wp2
        go_round
        case rel => exact ⟨k + 1, by omega, by go_num, any_snoc ht.out hxk.out (by simp [HX.out])⟩
        case measure => simp [intOf]; omega
    · have h5 := find_none ht.out (show rs.length ≤ k by omega)
      have H5 := Lib.hid h5
      clear h5
      go_wp2
      go_ret
      refine ⟨ret_bool ?_, rfl⟩
      rw [← HR.out, regB, H5.out, hl, Bool.eq_iff_iff]
      simp
      omega

/-- the lowest bytes of a number, at most two -/
def lowI (v w : Int) : Int := if w = 1 then v % 256 else v % 65536
theorem i64_and (v : Int) (m : Nat) (h0 : 0 ≤ v) (h1 : v < 9223372036854775808) (hm : m < 9223372036854775808) : bits .and .i64 v (m : Int) = ((v.toNat &&& m : Nat) : Int) := by
  obtain ⟨a, rfl⟩ := Int.eq_ofNat_of_zero_le h0
  have ha : a < 9223372036854775808 := by omega
  have hx : a &&& m < 2 ^ 63 := Nat.and_lt_two_pow _ (by omega)
  have e : ∀ q : Nat, q < 9223372036854775808 → (BitVec.ofInt 64 (q : Int)).toNat = q := fun q hq => by
    rw [BitVec.ofInt_natCast, BitVec.toNat_ofNat]; exact Nat.mod_eq_of_lt (by omega)
  show IntKind.i64.wrap ((BitVec.ofInt 64 (a : Int) &&& BitVec.ofInt 64 (m : Int)).toNat : Int) = _
  rw [BitVec.toNat_and, e a ha, e m hm, IntKind.wrap_i64, Int.toNat_natCast]
  omega
theorem and_255 (v : Int) (h0 : 0 ≤ v) (h1 : v ≤ 4294967295) : bits .and .i64 v 255 = v % 256 := by
  rw [show (255 : Int) = ((255 : Nat) : Int) from rfl, i64_and v 255 h0 (by omega) (by omega), Nat.and_two_pow_sub_one_eq_mod v.toNat 8]
  omega
theorem and_65535 (v : Int) (h0 : 0 ≤ v) (h1 : v ≤ 4294967295) : bits .and .i64 v 65535 = v % 65536 := by
  rw [show (65535 : Int) = ((65535 : Nat) : Int) from rfl, i64_and v 65535 h0 (by omega) (by omega), Nat.and_two_pow_sub_one_eq_mod v.toNat 16]
  omega

set_option maxHeartbeats 400000 in
theorem lowest_any (v wi : Int) (w : World) (h0 : 0 ≤ v) (h1 : v ≤ 4294967295) :
    Calls Try.prog 90 #[.int .i64 v, .int .i64 wi] w fun e w' => e = .returned (.int .i64 (lowI v wi)) ∧ w = w' := by
  have e1 := Lib.hid (and_255 v h0 h1)
  have e2 := Lib.hid (and_65535 v h0 h1)
  by_cases hw : wi = 1
  · subst hw
    go_enter Try.func90, Try.ntmps90
    go_wp2
    go_ret
    exact ⟨ret_int (by rw [lowI, if_pos rfl]; exact e1.out), rfl⟩
  · have hne : (wi == 1) = false := by simp [hw]
    go_enter Try.func90, Try.ntmps90
    go_wp2
    go_ret
    exact ⟨ret_int (by rw [lowI, if_neg hw]; exact e2.out), rfl⟩
set_option maxHeartbeats 400000 in
theorem l5Part_any (v wi : Int) (w : World) (h0 : 0 ≤ v) (h1 : v ≤ 4294967295) :
    Calls Try.prog 95 #[.int .i64 v, .int .i64 wi] w fun e w' => e = .returned (.int .i64 (lowI v wi)) ∧ w = w' := by
  by_cases hw : wi = 1
  · subst hw
    go_enter Try.func95, Try.ntmps95
    go_wp2
    go_ret
    exact ⟨ret_int (by rw [lowI, if_pos rfl]), rfl⟩
  · have hne : (wi == 1) = false := by simp [hw]
    go_enter Try.func95, Try.ntmps95
    go_wp2
    go_ret
    exact ⟨ret_int (by rw [lowI, if_neg hw]), rfl⟩

theorem ret_bool2' {A : Option Addr} {n m c : Nat} {b : Bool} (h : n = m) : Ending.returned (.tuple #[.slice A n c, .bool b]) = .returned (.tuple #[.slice A m c, .bool b]) := by rw [h]
/-- a device's trap: what it asks of its fields -/
theorem trap3 {wi : Int} {s : Bool} {r i : Int} (h : trapB 3 wi s r i = true) : 0 ≤ r ∧ r ≤ 3 := by
  unfold trapB at h
  rw [if_neg (by decide), if_neg (by decide), if_pos rfl] at h
  simp only [Bool.and_eq_true] at h
  have := inB_iff.1 h.2.1
  omega
def storedOk (c wi : Int) (s : Bool) (r i : Int) (rs : List Int) : Bool := trapB c wi s r i && (c == 3 && (s && regB rs))
def storedV (wi r : Int) (rs : List Int) : Int := lowI (rs[r.toNat]?.getD 0) wi
def loadOk (c wi : Int) (s : Bool) (r i : Int) (rs : List Int) (v : Int) : Bool := trapB c wi s r i && (c == 3 && (!s && (regB rs && inB v 0 4294967295)))
def loadL (wi r : Int) (rs : List Int) (v : Int) : List Int := rs.set r.toNat (lowI v wi)


set_option maxHeartbeats 4000000 in
theorem s_StoredValue_any (c wi : Int) (s : Bool) (r i : Int) (A : Option Addr) (n ca : Nat) (rs : List Int) (w : World) (hr : Rd w 1 A n (I rs)) (hn : n ≤ 1048576) :
    Calls Try.prog 24 #[trapV c wi s r i, .slice A n ca] w fun e w' => e = .returned (.tuple #[.int .i64 (selI (storedOk c wi s r i rs) (storedV wi r rs)), .bool (storedOk c wi s r i rs)]) ∧ Below w.heap.size w w' := by
  unfold storedOk
  by_cases h3 : c = 3
  · subst h3
    cases s
    · cases h0 : trapB 3 wi false r i
      all_goals have H0 := Lib.hid h0
      all_goals clear h0
      · go_enter Try.func24, Try.ntmps24
        go_wp2_with fail
        refine (l5Good_eq H0.out _).mono ?_
        rintro e w1 ⟨rfl, hb1⟩
        have B1 := (Box.new w _ _).keep hb1
        have C1 := B1.cell
        have Z1 := B1.lt
        go_wp2
        go_ret2
        exact ⟨rfl, below_next (below_alloc _ _) hb1⟩
      · go_enter Try.func24, Try.ntmps24
        go_wp2_with fail
        refine (l5Good_eq H0.out _).mono ?_
        rintro e w1 ⟨rfl, hb1⟩
        have B1 := (Box.new w _ _).keep hb1
        have C1 := B1.cell
        have Z1 := B1.lt
        go_wp2
        go_ret2
        exact ⟨rfl, below_next (below_alloc _ _) hb1⟩
    · cases h0 : trapB 3 wi true r i
      all_goals have H0 := Lib.hid h0
      all_goals clear h0
      · go_enter Try.func24, Try.ntmps24
        go_wp2_with fail
        refine (l5Good_eq H0.out _).mono ?_
        rintro e w1 ⟨rfl, hb1⟩
        have B1 := (Box.new w _ _).keep hb1
        have C1 := B1.cell
        have Z1 := B1.lt
        go_wp2
        go_ret2
        exact ⟨rfl, below_next (below_alloc _ _) hb1⟩
      · cases h1 : regB rs
        all_goals have H1 := Lib.hid h1
        all_goals clear h1
        · go_enter Try.func24, Try.ntmps24
          go_wp2_with fail
          refine (l5Good_eq H0.out _).mono ?_
          rintro e w1 ⟨rfl, hb1⟩
          have B1 := (Box.new w _ _).keep hb1
          have C1 := B1.cell
          have Z1 := B1.lt
          go_wp2_with fail
          refine (l5Registers_eq _ _ _ rs _ (hr.keep (below_next (below_alloc _ _) hb1)) hn _ H1.out).mono ?_
          rintro e w2 ⟨rfl, rfl⟩
          go_wp2
          go_ret2
          exact ⟨rfl, below_next (below_alloc _ _) hb1⟩
        · go_enter Try.func24, Try.ntmps24
          go_wp2_with fail
          refine (l5Good_eq H0.out _).mono ?_
          rintro e w1 ⟨rfl, hb1⟩
          have B1 := (Box.new w _ _).keep hb1
          have C1 := B1.cell
          have Z1 := B1.lt
          go_wp2_with fail
          refine (l5Registers_eq _ _ _ rs _ (hr.keep (below_next (below_alloc _ _) hb1)) hn _ H1.out).mono ?_
          rintro e w2 ⟨rfl, rfl⟩
          obtain ⟨hr0, hr3⟩ := trap3 H0.out
          have hl4 := regB_len H1.out
          have hl := hr.len
          obtain ⟨j, rfl⟩ := Int.eq_ofNat_of_zero_le hr0
          have hj0 : (0 : Int) ≤ (j : Int) := by omega
          have hj1 : (j : Int) < (n : Int) := by omega
          obtain ⟨b, o, x, rfl, hbl, hxj, hc⟩ := (hr.keep (below_next (below_alloc _ _) hb1)).at_ (show j < n by omega)
          obtain ⟨hx0, hx1⟩ := regB_at H1.out hxj.out
          have hE := Ext.box B1
          have hE2 := Ext.cell b hbl
          clear hl4 hl
          go_wp2_with fail
          refine wp_region_ext (by kernel_rfl) (by kernel_rfl) ?_
          repeat (go_big_quiet_step ((go_at_call 95; refine calls_ext_same (l5Part_any _ _ _ hx0 (by omega)))))
          refine wpQuiet_nil ?_
          rintro _ ⟨⟨w2, hb2⟩, rfl⟩
          go_wp2
          go_ret2
          refine ⟨?_, below_next (below_next (below_alloc _ _) hb1) hb2⟩
          rw [storedV, Int.toNat_natCast, hxj.out]
          rfl
  · have hne : (c != 3) = true := by simp [h3]
    have hee : (c == 3) = false := by simp [h3]
    rw [hee]
    cases h0 : trapB c wi s r i
    all_goals have H0 := Lib.hid h0
    all_goals clear h0
    · go_enter Try.func24, Try.ntmps24
      go_wp2_with fail
      refine (l5Good_eq H0.out _).mono ?_
      rintro e w1 ⟨rfl, hb1⟩
      have B1 := (Box.new w _ _).keep hb1
      have C1 := B1.cell
      have Z1 := B1.lt
      go_wp2
      go_ret2
      exact ⟨rfl, below_next (below_alloc _ _) hb1⟩
    · go_enter Try.func24, Try.ntmps24
      go_wp2_with fail
      refine (l5Good_eq H0.out _).mono ?_
      rintro e w1 ⟨rfl, hb1⟩
      have B1 := (Box.new w _ _).keep hb1
      have C1 := B1.cell
      have Z1 := B1.lt
      go_wp2
      go_ret2
      exact ⟨rfl, below_next (below_alloc _ _) hb1⟩


set_option maxHeartbeats 4000000 in
theorem i_StoredValue_any (c wi : Int) (s : Bool) (r i : Int) (A : Option Addr) (n ca : Nat) (rs : List Int) (w : World) (hr : Rd w 1 A n (I rs)) (hn : n ≤ 1048576) :
    Calls Try.prog 22 #[trapV c wi s r i, .slice A n ca] w fun e w' => e = .returned (.tuple #[.int .i64 (selI (storedOk c wi s r i rs) (storedV wi r rs)), .bool (storedOk c wi s r i rs)]) ∧ Below w.heap.size w w' := by
  unfold storedOk
  by_cases h3 : c = 3
  · subst h3
    cases s
    · cases h0 : trapB 3 wi false r i
      all_goals have H0 := Lib.hid h0
      all_goals clear h0
      · go_enter Try.func22, Try.ntmps22
        go_wp2_with fail
        refine (i_IsTrap_eq H0.out _).mono ?_
        rintro e w1 ⟨rfl, hb1⟩
        have B1 := (Box.new w _ _).keep hb1
        have C1 := B1.cell
        have Z1 := B1.lt
        go_wp2
        go_ret2
        exact ⟨rfl, below_next (below_alloc _ _) hb1⟩
      · go_enter Try.func22, Try.ntmps22
        go_wp2_with fail
        refine (i_IsTrap_eq H0.out _).mono ?_
        rintro e w1 ⟨rfl, hb1⟩
        have B1 := (Box.new w _ _).keep hb1
        have C1 := B1.cell
        have Z1 := B1.lt
        go_wp2
        go_ret2
        exact ⟨rfl, below_next (below_alloc _ _) hb1⟩
    · cases h0 : trapB 3 wi true r i
      all_goals have H0 := Lib.hid h0
      all_goals clear h0
      · go_enter Try.func22, Try.ntmps22
        go_wp2_with fail
        refine (i_IsTrap_eq H0.out _).mono ?_
        rintro e w1 ⟨rfl, hb1⟩
        have B1 := (Box.new w _ _).keep hb1
        have C1 := B1.cell
        have Z1 := B1.lt
        go_wp2
        go_ret2
        exact ⟨rfl, below_next (below_alloc _ _) hb1⟩
      · cases h1 : regB rs
        all_goals have H1 := Lib.hid h1
        all_goals clear h1
        · go_enter Try.func22, Try.ntmps22
          go_wp2_with fail
          refine (i_IsTrap_eq H0.out _).mono ?_
          rintro e w1 ⟨rfl, hb1⟩
          have B1 := (Box.new w _ _).keep hb1
          have C1 := B1.cell
          have Z1 := B1.lt
          go_wp2_with fail
          refine (areWords_eq _ _ _ rs _ (hr.keep (below_next (below_alloc _ _) hb1)) hn _ H1.out).mono ?_
          rintro e w2 ⟨rfl, rfl⟩
          go_wp2
          go_ret2
          exact ⟨rfl, below_next (below_alloc _ _) hb1⟩
        · go_enter Try.func22, Try.ntmps22
          go_wp2_with fail
          refine (i_IsTrap_eq H0.out _).mono ?_
          rintro e w1 ⟨rfl, hb1⟩
          have B1 := (Box.new w _ _).keep hb1
          have C1 := B1.cell
          have Z1 := B1.lt
          go_wp2_with fail
          refine (areWords_eq _ _ _ rs _ (hr.keep (below_next (below_alloc _ _) hb1)) hn _ H1.out).mono ?_
          rintro e w2 ⟨rfl, rfl⟩
          obtain ⟨hr0, hr3⟩ := trap3 H0.out
          have hl4 := regB_len H1.out
          have hl := hr.len
          obtain ⟨j, rfl⟩ := Int.eq_ofNat_of_zero_le hr0
          have hj0 : (0 : Int) ≤ (j : Int) := by omega
          have hj1 : (j : Int) < (n : Int) := by omega
          obtain ⟨b, o, x, rfl, hbl, hxj, hc⟩ := (hr.keep (below_next (below_alloc _ _) hb1)).at_ (show j < n by omega)
          obtain ⟨hx0, hx1⟩ := regB_at H1.out hxj.out
          have hE := Ext.box B1
          have hE2 := Ext.cell b hbl
          clear hl4 hl
          go_wp2_with fail
          refine wp_region_ext (by kernel_rfl) (by kernel_rfl) ?_
          repeat (go_big_quiet_step ((go_at_call 90; refine calls_ext_same (lowest_any _ _ _ hx0 (by omega)))))
          refine wpQuiet_nil ?_
          rintro _ ⟨⟨w2, hb2⟩, rfl⟩
          go_wp2
          go_ret2
          refine ⟨?_, below_next (below_next (below_alloc _ _) hb1) hb2⟩
          rw [storedV, Int.toNat_natCast, hxj.out]
          rfl
  · have hne : (c != 3) = true := by simp [h3]
    have hee : (c == 3) = false := by simp [h3]
    rw [hee]
    cases h0 : trapB c wi s r i
    all_goals have H0 := Lib.hid h0
    all_goals clear h0
    · go_enter Try.func22, Try.ntmps22
      go_wp2_with fail
      refine (i_IsTrap_eq H0.out _).mono ?_
      rintro e w1 ⟨rfl, hb1⟩
      have B1 := (Box.new w _ _).keep hb1
      have C1 := B1.cell
      have Z1 := B1.lt
      go_wp2
      go_ret2
      exact ⟨rfl, below_next (below_alloc _ _) hb1⟩
    · go_enter Try.func22, Try.ntmps22
      go_wp2_with fail
      refine (i_IsTrap_eq H0.out _).mono ?_
      rintro e w1 ⟨rfl, hb1⟩
      have B1 := (Box.new w _ _).keep hb1
      have C1 := B1.cell
      have Z1 := B1.lt
      go_wp2
      go_ret2
      exact ⟨rfl, below_next (below_alloc _ _) hb1⟩


set_option maxHeartbeats 4000000 in
theorem s_LoadValue_any (c wi : Int) (s : Bool) (r i : Int) (A : Option Addr) (n ca : Nat) (rs : List Int) (v : Int) (w : World) (hr : Rd w 1 A n (I rs)) (hn : n ≤ 1048576) :
    Calls Try.prog 20 #[trapV c wi s r i, .slice A n ca, .int .i64 v] w fun e w' => ∃ A' c', e = .returned (.tuple #[.slice A' (selL (loadOk c wi s r i rs v) (loadL wi r rs v)).length c', .bool (loadOk c wi s r i rs v)]) ∧ Own w' w.heap.size (ti A' (selL (loadOk c wi s r i rs v) (loadL wi r rs v)).length c' (selL (loadOk c wi s r i rs v) (loadL wi r rs v))) ∧ Below w.heap.size w w' := by
  unfold loadOk
  by_cases h3 : c = 3
  · subst h3
    cases s
    · cases h0 : trapB 3 wi false r i
      all_goals have H0 := Lib.hid h0
      all_goals clear h0
      · go_enter Try.func20, Try.ntmps20
        go_wp2_with fail
        refine (l5Good_eq H0.out _).mono ?_
        rintro e w1 ⟨rfl, hb1⟩
        have B1 := (Box.new w _ _).keep hb1
        have C1 := B1.cell
        have Z1 := B1.lt
        go_wp2
        go_ret2
        exact ⟨_, 0, rfl, own_less (own_new0 _ _ rfl) (below_next (below_alloc _ _) hb1).size, below_next (below_next (below_alloc _ _) hb1) (below_alloc _ _)⟩
      · cases h1 : regB rs
        all_goals have H1 := Lib.hid h1
        all_goals clear h1
        · go_enter Try.func20, Try.ntmps20
          go_wp2_with fail
          refine (l5Good_eq H0.out _).mono ?_
          rintro e w1 ⟨rfl, hb1⟩
          have B1 := (Box.new w _ _).keep hb1
          have C1 := B1.cell
          have Z1 := B1.lt
          go_wp2_with fail
          refine (l5Registers_eq _ _ _ rs _ (hr.keep (below_next (below_alloc _ _) hb1)) hn _ H1.out).mono ?_
          rintro e w2 ⟨rfl, rfl⟩
          go_wp2
          go_ret2
          exact ⟨_, 0, rfl, own_less (own_new0 _ _ rfl) (below_next (below_alloc _ _) hb1).size, below_next (below_next (below_alloc _ _) hb1) (below_alloc _ _)⟩
        · cases h2 : inB v 0 4294967295
          all_goals have H2 := Lib.hid h2
          all_goals clear h2
          · go_enter Try.func20, Try.ntmps20
            go_wp2_with fail
            refine (l5Good_eq H0.out _).mono ?_
            rintro e w1 ⟨rfl, hb1⟩
            have B1 := (Box.new w _ _).keep hb1
            have C1 := B1.cell
            have Z1 := B1.lt
            go_wp2_with fail
            refine (l5Registers_eq _ _ _ rs _ (hr.keep (below_next (below_alloc _ _) hb1)) hn _ H1.out).mono ?_
            rintro e w2 ⟨rfl, rfl⟩
            go_wp2_with fail
            refine (l1In_eq H2.out _).mono ?_
            rintro e w2 ⟨rfl, rfl⟩
            go_wp2
            go_ret2
            exact ⟨_, 0, rfl, own_less (own_new0 _ _ rfl) (below_next (below_alloc _ _) hb1).size, below_next (below_next (below_alloc _ _) hb1) (below_alloc _ _)⟩
          · go_enter Try.func20, Try.ntmps20
            go_wp2_with fail
            refine (l5Good_eq H0.out _).mono ?_
            rintro e w1 ⟨rfl, hb1⟩
            have B1 := (Box.new w _ _).keep hb1
            have C1 := B1.cell
            have Z1 := B1.lt
            go_wp2_with fail
            refine (l5Registers_eq _ _ _ rs _ (hr.keep (below_next (below_alloc _ _) hb1)) hn _ H1.out).mono ?_
            rintro e w2 ⟨rfl, rfl⟩
            go_wp2_with fail
            refine (l1In_eq H2.out _).mono ?_
            rintro e w2 ⟨rfl, rfl⟩
            obtain ⟨hr0, hr3⟩ := trap3 H0.out
            have hl4 := regB_len H1.out
            have hl := hr.len
            obtain ⟨hv0, hv1⟩ := inB_iff.1 H2.out
            obtain ⟨j, rfl⟩ := Int.eq_ofNat_of_zero_le hr0
            have hj0 : (0 : Int) ≤ (j : Int) := by omega
            have hj1 : (j : Int) < (n : Int) := by omega
            go_wp2_with fail
            refine (l1Own_any _ _ _ rs _ (hr.keep (below_next (below_alloc _ _) hb1)) hn).mono ?_
            rintro e w2 ⟨A2, c2, rfl, ho2, hb2⟩
            have B2 := B1.keep hb2
            have C2 := B2.cell
            have hE := Ext.box B2
            obtain ⟨gg, rfl⟩ := own_some ho2 (by omega)
            obtain ⟨⟨y, hy⟩, hfr, hs, hgr⟩ := own_store ho2 (show j < n by omega) (lowI v wi)
            have hgb := (World.ownsRow.lt ho2 gg rfl).1
            clear hl4
            have HL := Lib.hid hl
            clear hl hs hgr
            go_wp2_with fail
            go_region_with ((go_at_call 95; refine (l5Part_any _ _ _ hv0 hv1).mono ?_; rintro e w3 ⟨rfl, rfl⟩))
            all_goals
              go_wp2
              go_ret2
              have e : (selL true (loadL wi (j : Int) rs v)).length = n := by simp [selL, loadL, HL.out]
              obtain ⟨-, -, hs, -⟩ := own_store ho2 (show j < n by have := regB_len H1.out; have := HL.out; omega) (lowI v wi)
              refine ⟨some ⟨gg, 0, none⟩, c2, ?_, ?_, ?_⟩
              · exact ret_bool2' (by rw [← e]; rfl)
              · show Own _ _ (ti _ (selL true (loadL wi (j : Int) rs v)).length _ (selL true (loadL wi (j : Int) rs v)))
                rw [e]
                exact own_less hs (below_next (below_alloc _ _) hb1).size
              · exact Below.setCell (below_next (below_next (below_alloc _ _) hb1) hb2).drew (Nat.le_trans (below_next (below_alloc _ _) hb1).size hgb) _
    · cases h0 : trapB 3 wi true r i
      all_goals have H0 := Lib.hid h0
      all_goals clear h0
      · go_enter Try.func20, Try.ntmps20
        go_wp2_with fail
        refine (l5Good_eq H0.out _).mono ?_
        rintro e w1 ⟨rfl, hb1⟩
        have B1 := (Box.new w _ _).keep hb1
        have C1 := B1.cell
        have Z1 := B1.lt
        go_wp2
        go_ret2
        exact ⟨_, 0, rfl, own_less (own_new0 _ _ rfl) (below_next (below_alloc _ _) hb1).size, below_next (below_next (below_alloc _ _) hb1) (below_alloc _ _)⟩
      · go_enter Try.func20, Try.ntmps20
        go_wp2_with fail
        refine (l5Good_eq H0.out _).mono ?_
        rintro e w1 ⟨rfl, hb1⟩
        have B1 := (Box.new w _ _).keep hb1
        have C1 := B1.cell
        have Z1 := B1.lt
        go_wp2
        go_ret2
        exact ⟨_, 0, rfl, own_less (own_new0 _ _ rfl) (below_next (below_alloc _ _) hb1).size, below_next (below_next (below_alloc _ _) hb1) (below_alloc _ _)⟩
  · have hne : (c != 3) = true := by simp [h3]
    have hee : (c == 3) = false := by simp [h3]
    rw [hee]
    cases h0 : trapB c wi s r i
    all_goals have H0 := Lib.hid h0
    all_goals clear h0
    · go_enter Try.func20, Try.ntmps20
      go_wp2_with fail
      refine (l5Good_eq H0.out _).mono ?_
      rintro e w1 ⟨rfl, hb1⟩
      have B1 := (Box.new w _ _).keep hb1
      have C1 := B1.cell
      have Z1 := B1.lt
      go_wp2
      go_ret2
      exact ⟨_, 0, rfl, own_less (own_new0 _ _ rfl) (below_next (below_alloc _ _) hb1).size, below_next (below_next (below_alloc _ _) hb1) (below_alloc _ _)⟩
    · go_enter Try.func20, Try.ntmps20
      go_wp2_with fail
      refine (l5Good_eq H0.out _).mono ?_
      rintro e w1 ⟨rfl, hb1⟩
      have B1 := (Box.new w _ _).keep hb1
      have C1 := B1.cell
      have Z1 := B1.lt
      go_wp2
      go_ret2
      exact ⟨_, 0, rfl, own_less (own_new0 _ _ rfl) (below_next (below_alloc _ _) hb1).size, below_next (below_next (below_alloc _ _) hb1) (below_alloc _ _)⟩


set_option maxHeartbeats 4000000 in
theorem i_LoadValue_any (c wi : Int) (s : Bool) (r i : Int) (A : Option Addr) (n ca : Nat) (rs : List Int) (v : Int) (w : World) (hr : Rd w 1 A n (I rs)) (hn : n ≤ 1048576) :
    Calls Try.prog 19 #[trapV c wi s r i, .slice A n ca, .int .i64 v] w fun e w' => ∃ A' c', e = .returned (.tuple #[.slice A' (selL (loadOk c wi s r i rs v) (loadL wi r rs v)).length c', .bool (loadOk c wi s r i rs v)]) ∧ Own w' w.heap.size (ti A' (selL (loadOk c wi s r i rs v) (loadL wi r rs v)).length c' (selL (loadOk c wi s r i rs v) (loadL wi r rs v))) ∧ Below w.heap.size w w' := by
  unfold loadOk
  by_cases h3 : c = 3
  · subst h3
    cases s
    · cases h0 : trapB 3 wi false r i
      all_goals have H0 := Lib.hid h0
      all_goals clear h0
      · go_enter Try.func19, Try.ntmps19
        go_wp2_with fail
        refine (i_IsTrap_eq H0.out _).mono ?_
        rintro e w1 ⟨rfl, hb1⟩
        have B1 := (Box.new w _ _).keep hb1
        have C1 := B1.cell
        have Z1 := B1.lt
        go_wp2
        go_ret2
        exact ⟨none, 0, rfl, own_nil _ _, below_next (below_alloc _ _) hb1⟩
      · cases h1 : regB rs
        all_goals have H1 := Lib.hid h1
        all_goals clear h1
        · go_enter Try.func19, Try.ntmps19
          go_wp2_with fail
          refine (i_IsTrap_eq H0.out _).mono ?_
          rintro e w1 ⟨rfl, hb1⟩
          have B1 := (Box.new w _ _).keep hb1
          have C1 := B1.cell
          have Z1 := B1.lt
          go_wp2_with fail
          refine (areWords_eq _ _ _ rs _ (hr.keep (below_next (below_alloc _ _) hb1)) hn _ H1.out).mono ?_
          rintro e w2 ⟨rfl, rfl⟩
          go_wp2
          go_ret2
          exact ⟨none, 0, rfl, own_nil _ _, below_next (below_alloc _ _) hb1⟩
        · cases h2 : inB v 0 4294967295
          all_goals have H2 := Lib.hid h2
          all_goals clear h2
          · go_enter Try.func19, Try.ntmps19
            go_wp2_with fail
            refine (i_IsTrap_eq H0.out _).mono ?_
            rintro e w1 ⟨rfl, hb1⟩
            have B1 := (Box.new w _ _).keep hb1
            have C1 := B1.cell
            have Z1 := B1.lt
            go_wp2_with fail
            refine (areWords_eq _ _ _ rs _ (hr.keep (below_next (below_alloc _ _) hb1)) hn _ H1.out).mono ?_
            rintro e w2 ⟨rfl, rfl⟩
            go_wp2_with fail
            refine (inside_eq H2.out _).mono ?_
            rintro e w2 ⟨rfl, rfl⟩
            go_wp2
            go_ret2
            exact ⟨none, 0, rfl, own_nil _ _, below_next (below_alloc _ _) hb1⟩
          · go_enter Try.func19, Try.ntmps19
            go_wp2_with fail
            refine (i_IsTrap_eq H0.out _).mono ?_
            rintro e w1 ⟨rfl, hb1⟩
            have B1 := (Box.new w _ _).keep hb1
            have C1 := B1.cell
            have Z1 := B1.lt
            go_wp2_with fail
            refine (areWords_eq _ _ _ rs _ (hr.keep (below_next (below_alloc _ _) hb1)) hn _ H1.out).mono ?_
            rintro e w2 ⟨rfl, rfl⟩
            go_wp2_with fail
            refine (inside_eq H2.out _).mono ?_
            rintro e w2 ⟨rfl, rfl⟩
            obtain ⟨hr0, hr3⟩ := trap3 H0.out
            have hl4 := regB_len H1.out
            have hl := hr.len
            obtain ⟨hv0, hv1⟩ := inB_iff.1 H2.out
            obtain ⟨j, rfl⟩ := Int.eq_ofNat_of_zero_le hr0
            have hj0 : (0 : Int) ≤ (j : Int) := by omega
            have hj1 : (j : Int) < (n : Int) := by omega
            go_wp2_with fail
            refine (copyInts_any _ _ _ rs _ (hr.keep (below_next (below_alloc _ _) hb1)) hn).mono ?_
            rintro e w2 ⟨A2, c2, rfl, ho2, hb2⟩
            have B2 := B1.keep hb2
            have C2 := B2.cell
            have hE := Ext.box B2
            obtain ⟨gg, rfl⟩ := own_some ho2 (by omega)
            obtain ⟨⟨y, hy⟩, hfr, hs, hgr⟩ := own_store ho2 (show j < n by omega) (lowI v wi)
            have hgb := (World.ownsRow.lt ho2 gg rfl).1
            clear hl4
            have HL := Lib.hid hl
            clear hl hs hgr
            go_wp2_with fail
            go_region_with ((go_at_call 90; refine (lowest_any _ _ _ hv0 hv1).mono ?_; rintro e w3 ⟨rfl, rfl⟩))
            all_goals
              go_wp2
              go_ret2
              have e : (selL true (loadL wi (j : Int) rs v)).length = n := by simp [selL, loadL, HL.out]
              obtain ⟨-, -, hs, -⟩ := own_store ho2 (show j < n by have := regB_len H1.out; have := HL.out; omega) (lowI v wi)
              refine ⟨some ⟨gg, 0, none⟩, c2, ?_, ?_, ?_⟩
              · exact ret_bool2' (by rw [← e]; rfl)
              · show Own _ _ (ti _ (selL true (loadL wi (j : Int) rs v)).length _ (selL true (loadL wi (j : Int) rs v)))
                rw [e]
                exact own_less hs (below_next (below_alloc _ _) hb1).size
              · exact Below.setCell (below_next (below_next (below_alloc _ _) hb1) hb2).drew (Nat.le_trans (below_next (below_alloc _ _) hb1).size hgb) _
    · cases h0 : trapB 3 wi true r i
      all_goals have H0 := Lib.hid h0
      all_goals clear h0
      · go_enter Try.func19, Try.ntmps19
        go_wp2_with fail
        refine (i_IsTrap_eq H0.out _).mono ?_
        rintro e w1 ⟨rfl, hb1⟩
        have B1 := (Box.new w _ _).keep hb1
        have C1 := B1.cell
        have Z1 := B1.lt
        go_wp2
        go_ret2
        exact ⟨none, 0, rfl, own_nil _ _, below_next (below_alloc _ _) hb1⟩
      · go_enter Try.func19, Try.ntmps19
        go_wp2_with fail
        refine (i_IsTrap_eq H0.out _).mono ?_
        rintro e w1 ⟨rfl, hb1⟩
        have B1 := (Box.new w _ _).keep hb1
        have C1 := B1.cell
        have Z1 := B1.lt
        go_wp2
        go_ret2
        exact ⟨none, 0, rfl, own_nil _ _, below_next (below_alloc _ _) hb1⟩
  · have hne : (c != 3) = true := by simp [h3]
    have hee : (c == 3) = false := by simp [h3]
    rw [hee]
    cases h0 : trapB c wi s r i
    all_goals have H0 := Lib.hid h0
    all_goals clear h0
    · go_enter Try.func19, Try.ntmps19
      go_wp2_with fail
      refine (i_IsTrap_eq H0.out _).mono ?_
      rintro e w1 ⟨rfl, hb1⟩
      have B1 := (Box.new w _ _).keep hb1
      have C1 := B1.cell
      have Z1 := B1.lt
      go_wp2
      go_ret2
      exact ⟨none, 0, rfl, own_nil _ _, below_next (below_alloc _ _) hb1⟩
    · go_enter Try.func19, Try.ntmps19
      go_wp2_with fail
      refine (i_IsTrap_eq H0.out _).mono ?_
      rintro e w1 ⟨rfl, hb1⟩
      have B1 := (Box.new w _ _).keep hb1
      have C1 := B1.cell
      have Z1 := B1.lt
      go_wp2
      go_ret2
      exact ⟨none, 0, rfl, own_nil _ _, below_next (below_alloc _ _) hb1⟩

end Go.Proofs.Ytcdocgmikpccoaa
