/- Contracts of the two GrantRun. Lengths at most 2^20. -/
import Derived.Test.YtppnmpkefchknaaFf
import Derived.Test.YtppnmpkefchknaaFd
namespace Go.Proofs.Ytppnmpkefchknaa
open Go.RowKit
set_option linter.unusedVariables false
set_option linter.unusedSimpArgs false

/-- are there l free frames from i on -/
def zB (xs : List Int) (i l : Nat) : Bool := (List.range l).all fun j => xs[i + j]? == some 0
theorem zB_iff {xs : List Int} {i l : Nat} : zB xs i l = true ↔ Zr xs i l := by
  unfold zB Zr
  rw [List.all_eq_true]
  exact ⟨fun h j hj => by simpa using h j (List.mem_range.2 hj), fun h j hj => by simpa using h j (List.mem_range.1 hj)⟩
/-- the first place with l free frames -/
def firstRun (xs : List Int) (l : Nat) : Option Nat := (List.range xs.length).find? fun i => zB xs i l
theorem firstRun_some {xs : List Int} {l f : Nat} (hf : f < xs.length) (h : zB xs f l = true) (hb : ∀ i, i < f → zB xs i l = false) : firstRun xs l = some f := by
  unfold firstRun
  rw [show xs.length = f + (xs.length - f) by omega, List.range_add, List.find?_append, List.find?_eq_none.2 (fun i hi => by simp [hb i (List.mem_range.1 hi)]),
    show xs.length - f = (xs.length - f - 1) + 1 by omega, List.range_succ_eq_map]
  simp [h]
theorem firstRun_none {xs : List Int} {l : Nat} (hb : ∀ i, i < xs.length → zB xs i l = false) : firstRun xs l = none := by
  unfold firstRun
  exact List.find?_eq_none.2 fun i hi => by simp [hb i (List.mem_range.1 hi)]
theorem zB_far {xs : List Int} {i l : Nat} (hl : 0 < l) (h : xs.length < i + l) : zB xs i l = false := by
  cases hz : zB xs i l with
  | false => rfl
  | true => have := (zB_iff.1 hz).fits hl; omega
theorem zB_short {xs : List Int} {i l r : Nat} (h : MaxRun xs i r) (hr : r < l) : zB xs i l = false := by
  cases hz : zB xs i l with
  | false => rfl
  | true => have := h.most l (zB_iff.1 hz); omega
theorem zB_long {xs : List Int} {i l r : Nat} (h : MaxRun xs i r) (hr : l ≤ r) : zB xs i l = true := zB_iff.2 (h.run.less hr)

/-- q frames from f on go to g -/
def runL (xs : List Int) (f q : Nat) (g : Int) : List Int := (List.range q).foldl (fun l j => l.set (f + j) g) xs
theorem runL_succ (xs : List Int) (f q : Nat) (g : Int) : runL xs f (q + 1) g = (runL xs f q g).set (f + q) g := by
  unfold runL; rw [List.range_succ, List.foldl_append]; rfl
theorem runL_len (xs : List Int) (f q : Nat) (g : Int) : (runL xs f q g).length = xs.length := by
  induction q with
  | zero => rfl
  | succ q ih => rw [runL_succ, List.length_set, ih]

def grOk (xs : List Int) (g k : Int) : Bool := ownB xs && (inB g 1 4 && (decide (1 ≤ k) && (firstRun xs k.toNat).isSome))
def grI (xs : List Int) (k : Int) : Int := (((firstRun xs k.toNat).getD 0 : Nat) : Int)
def grL (xs : List Int) (g k : Int) : List Int := runL xs ((firstRun xs k.toNat).getD 0) k.toNat g
theorem grL_len (xs : List Int) (g k : Int) : (grL xs g k).length = xs.length := runL_len _ _ _ _

theorem upTo_full {ys : List Int} {m : Nat} (hm : m ≤ ys.length) : (upTo ys 0 m).length = m ↔ Zr ys 0 m := by
  induction m with
  | zero => exact ⟨fun _ => Zr.zero _ _, fun _ => rfl⟩
  | succ m ih =>
    have hx : ys[m]? = some (ys[m]'(by omega)) := List.getElem?_eq_getElem (by omega)
    have hul := upTo_len ys 0 m
    by_cases h0 : ys[m]'(by omega) = 0
    · rw [h0] at hx
      rw [upTo_hit hx, List.length_append]
      constructor
      · intro h
        have h1 := (ih (by omega)).1 (by simpa using h)
        have := h1.snoc (by rw [Nat.zero_add]; exact hx)
        exact this
      · intro h
        have h1 := (ih (by omega)).2 (h.less (by omega))
        simp [h1]
    · rw [upTo_miss hx h0]
      constructor
      · intro h; omega
      · intro h
        have := h m (by omega)
        rw [Nat.zero_add, hx] at this
        exact absurd (Option.some.inj this) h0
theorem window_full {xs : List Int} {f k : Nat} (h : f + k ≤ xs.length) : (framesL ((xs.drop f).take k) 0).length = k ↔ zB xs f k = true := by
  have hl : ((xs.drop f).take k).length = k := by rw [List.length_take, List.length_drop]; omega
  have : (framesL ((xs.drop f).take k) 0).length = k ↔ Zr ((xs.drop f).take k) 0 k := by
    have := upTo_full (ys := (xs.drop f).take k) (m := k) (by omega)
    unfold framesL
    rw [hl]
    exact this
  rw [this, zB_iff]
  unfold Zr
  constructor
  · intro h1 j hj
    have := h1 j hj
    rw [Nat.zero_add, List.getElem?_take_of_lt hj, List.getElem?_drop] at this
    exact this
  · intro h1 j hj
    rw [Nat.zero_add, List.getElem?_take_of_lt hj, List.getElem?_drop]
    exact h1 j hj
theorem Rd.cut_ {w : World} {A : Option Addr} {n : Nat} {xs : List Int} (h : Rd w 1 A n (I xs)) {f k : Nat} (hk : f + k ≤ n) {b o : Nat} (hA : A = some ⟨b, o, none⟩) : Rd w 1 (some ⟨b, o + f, none⟩) k (I ((xs.drop f).take k)) := by
  have hl := h.len
  refine ⟨by simp [I_length]; omega, fun h0 => ?_⟩
  obtain ⟨b', o', hA', hb, hc⟩ := h.2 (by omega)
  rw [hA] at hA'
  obtain ⟨rfl, rfl⟩ : b = b' ∧ o = o' := by simpa using hA'
  refine ⟨b, o + f, rfl, hb, fun j u hu => ?_⟩
  have hj : j < k := by
    have := (List.getElem?_eq_some_iff.1 hu).1
    rw [I_length, List.length_take] at this; omega
  rw [Nat.add_assoc]
  refine hc (f + j) u ?_
  rw [← I_take, List.getElem?_take_of_lt hj] at hu
  simp only [I, List.map_drop, List.getElem?_drop] at hu ⊢
  exact hu


/-- what GrantRun leaves -/
def GrPost (xs : List Int) (g k : Int) (w : World) (e : Ending) (w' : World) : Prop := ∃ A' c', e = .returned (.tuple #[.slice A' (selL (grOk xs g k) (grL xs g k)).length c', .int .i64 (selI (grOk xs g k) (grI xs k)), .bool (grOk xs g k)]) ∧ Own w' w.heap.size (ti A' (selL (grOk xs g k) (grL xs g k)).length c' (selL (grOk xs g k) (grL xs g k))) ∧ Below w.heap.size w w'
theorem GrPost.no {xs : List Int} {g k : Int} {w w' : World} {e : Ending} (hok : grOk xs g k = false) {A : Option Addr} {c : Nat} (he : e = .returned (.tuple #[.slice A 0 c, .int .i64 0, .bool false])) (ho : Own w' w.heap.size (ti A 0 c [])) (hb : Below w.heap.size w w') : GrPost xs g k w e w' := by
  unfold GrPost
  rw [hok]
  exact ⟨A, c, he, ho, hb⟩
theorem GrPost.yes {xs : List Int} {g k : Int} {w w' : World} {e : Ending} (hok : grOk xs g k = true) {A : Option Addr} {f n c : Nat} (hf : firstRun xs k.toNat = some f) (hn : xs.length = n) (he : e = .returned (.tuple #[.slice A n c, .int .i64 (f : Int), .bool true])) (ho : Own w' w.heap.size (ti A n c (runL xs f k.toNat g))) (hb : Below w.heap.size w w') : GrPost xs g k w e w' := by
  have e1 : (selL true (grL xs g k)).length = n := by rw [selL, if_pos rfl, grL_len, hn]
  have e2 : grL xs g k = runL xs f k.toNat g := by unfold grL; rw [hf]; rfl
  have e3 : grI xs k = (f : Int) := by unfold grI; rw [hf]; rfl
  unfold GrPost
  rw [hok, e1, selI, if_pos rfl, e3, selL, if_pos rfl, e2]
  exact ⟨A, c, he, ho, hb⟩


set_option maxHeartbeats 4000000 in
theorem s_GrantRun_any (A : Option Addr) (n c : Nat) (xs : List Int) (g k : Int) (w : World) (hr : Rd w 1 A n (I xs)) (hn : n ≤ 1048576) :
    Calls Try.prog 38 #[.slice A n c, .int .i64 g, .int .i64 k] w fun e w' => GrPost xs g k w e w' := by
  have HL := Lib.hid hr.len
  by_cases hk1 : 1 ≤ k
  · obtain ⟨k, rfl⟩ := Int.eq_ofNat_of_zero_le (show 0 ≤ k by omega)
    have hk2 : ¬ (k : Int) < 1 := by omega
    cases h0 : (ownB xs && inB g 1 4)
    all_goals have H0 := Lib.hid h0
    all_goals clear h0
    · go_enter Try.func38, Try.ntmps38
      go_wp2_with fail
      refine (l2Guest_eq _ _ _ xs _ _ hr hn H0.out).mono ?_
      rintro e w1 ⟨rfl, rfl⟩
      go_wp2
      go_ret3
      exact GrPost.no (by have := H0.out; unfold grOk; rw [← Bool.and_assoc, this]; rfl) rfl (own_new0 _ _ rfl) (below_alloc _ _)
    · go_enter Try.func38, Try.ntmps38
      go_wp2_with fail
      refine (l2Guest_eq _ _ _ xs _ _ hr hn H0.out).mono ?_
      rintro e w1 ⟨rfl, rfl⟩
      go_wp2
      go_loop [9] (fun v => ∃ f : Nat, f ≤ n ∧ v = .int .i64 (f : Int) ∧ Hid (∀ i, i < f → zB xs i k = false)) (fun v => n - (intOf v).toNat)
      case atStart => exact ⟨0, Nat.zero_le _, rfl, fun i hi => absurd hi (by omega)⟩
      case round =>
        obtain ⟨f, hf, rfl, hz⟩ := hrel
        by_cases hlt : f < n
        · go_wp2_with fail
          refine (l2Run_any _ _ _ xs f _ hr hn (by omega)).mono ?_
          rintro e w1 ⟨r, rfl, hM, rfl⟩
          have HM := Lib.hid hM
          clear hM
          by_cases hrk : r < k
          · have h1 : (r : Int) < (k : Int) := by omega
            go_wp2
            go_round
            case rel => exact ⟨f + 1, by omega, by go_num, fun i hi => if h : i = f then by rw [h]; exact zB_short HM.out hrk else hz.out i (by omega)⟩
            case measure => simp [intOf]; omega
          · have h1 : ¬ (r : Int) < (k : Int) := by omega
            have HZ := Lib.hid (zB_long HM.out (show k ≤ r by omega))
            have hfk : f + k ≤ n := by have := (zB_iff.1 HZ.out).fits (by omega); have := HL.out; omega
            go_wp2_with fail
            refine (l1Own_any _ _ _ xs _ hr hn).mono ?_
            rintro e w1 ⟨A1, c1, rfl, ho1, hb1⟩
            have HO := Lib.hid ho1
            have HB := Lib.hid hb1
            clear ho1 hb1
            go_wp2
            go_loopw [11] (fun v wq => ∃ q : Nat, q ≤ k ∧ v = .int .i64 (q : Int) ∧ Own wq w.heap.size (ti A1 n c1 (runL xs f q g)) ∧ Below w.heap.size w wq) (fun v _ => k - (intOf v).toNat)
            case atStart => exact ⟨0, Nat.zero_le _, rfl, HO.out, HB.out⟩
            case round =>
              obtain ⟨q, hq, rfl, hO, hB⟩ := hrel
              by_cases hqk : q < k
              · obtain ⟨gg, rfl⟩ := own_some hO (by omega)
                have h0 : (0 : Int) ≤ (f : Int) + (q : Int) := by omega
                have h1 : (f : Int) + (q : Int) < (n : Int) := by omega
                obtain ⟨⟨y, hy⟩, hfr, hs, hgr⟩ := own_store hO (show f + q < n by omega) g
                have HS := Lib.hid hs
                have hgb := (World.ownsRow.lt hO gg rfl).1
                clear hs hgr hO HO HB
                go_wp2
                go_roundw
                case rel =>
                  refine ⟨q + 1, by omega, by go_num, ?_, hB.setCell (by exact hgb) _⟩
                  rw [runL_succ]
                  exact HS.out
                case measure => simp [intOf]; omega
              · have hqe : q = k := by omega
                have HO2 := Lib.hid hO
                clear hO
                go_wp2
                go_ret3
                subst hqe
                have hfr := Lib.hid (firstRun_some (xs := xs) (l := q) (f := f) (by have := HL.out; omega) HZ.out hz.out)
                refine GrPost.yes (f := f) (by have := H0.out; unfold grOk; rw [← Bool.and_assoc, this, Int.toNat_natCast, hfr.out]; simp; omega) (by rw [Int.toNat_natCast]; exact hfr.out) HL.out rfl (by rw [Int.toNat_natCast]; exact HO2.out) hB
        · have hnone := Lib.hid (firstRun_none (xs := xs) (l := k) (fun i hi => hz.out i (by have := HL.out; omega)))
          go_wp2
          go_ret3
          exact GrPost.no (by unfold grOk; rw [Int.toNat_natCast, hnone.out]; simp) rfl (own_new0 _ _ rfl) (below_alloc _ _)
  · have hk2 : k < 1 := by omega
    have hd : decide (1 ≤ k) = false := by simpa using hk2
    have HD := Lib.hid hd
    clear hd
    cases h0 : (ownB xs && inB g 1 4)
    all_goals have H0 := Lib.hid h0
    all_goals clear h0
    · go_enter Try.func38, Try.ntmps38
      go_wp2_with fail
      refine (l2Guest_eq _ _ _ xs _ _ hr hn H0.out).mono ?_
      rintro e w1 ⟨rfl, rfl⟩
      go_wp2
      go_ret3
      exact GrPost.no (by have := H0.out; unfold grOk; rw [← Bool.and_assoc, this]; rfl) rfl (own_new0 _ _ rfl) (below_alloc _ _)
    · go_enter Try.func38, Try.ntmps38
      go_wp2_with fail
      refine (l2Guest_eq _ _ _ xs _ _ hr hn H0.out).mono ?_
      rintro e w1 ⟨rfl, rfl⟩
      go_wp2
      go_ret3
      exact GrPost.no (by unfold grOk; rw [HD.out]; simp) rfl (own_new0 _ _ rfl) (below_alloc _ _)


theorem grNo {xs : List Int} {k : Int} (h : inB k 1 (xs.length : Int) = false) : (decide (1 ≤ k) && (firstRun xs k.toNat).isSome) = false := by
  by_cases h1 : 1 ≤ k
  · have h2 : (xs.length : Int) < k := by
      rcases Int.lt_or_le (xs.length : Int) k with h3 | h3
      · exact h3
      · have := inB_iff.2 ⟨h1, h3⟩
        rw [h] at this; cases this
    rw [firstRun_none (fun i hi => zB_far (by omega) (by omega))]
    simp
  · have : decide (1 ≤ k) = false := by simpa using h1
    rw [this]; rfl


set_option maxHeartbeats 4000000 in
theorem i_GrantRun_any (A : Option Addr) (n c : Nat) (xs : List Int) (g k : Int) (w : World) (hr : Rd w 1 A n (I xs)) (hn : n ≤ 1048576) (hnc : n ≤ c) :
    Calls Try.prog 36 #[.slice A n c, .int .i64 g, .int .i64 k] w fun e w' => GrPost xs g k w e w' := by
  have HL := Lib.hid hr.len
  cases h0 : ownB xs
  all_goals have H0 := Lib.hid h0
  all_goals clear h0
  · go_enter Try.func36, Try.ntmps36
    go_wp2_with fail
    refine (i_AreOwners_eq _ _ _ xs _ hr (by omega) _ H0.out).mono ?_
    rintro e w1 ⟨rfl, rfl⟩
    go_wp2
    go_ret3
    exact GrPost.no (by unfold grOk; rw [H0.out]; rfl) rfl (own_nil _ _) (Below.refl _ _)
  · cases h1 : inB g 1 4
    all_goals have H1 := Lib.hid h1
    all_goals clear h1
    · go_enter Try.func36, Try.ntmps36
      go_wp2_with fail
      refine (i_AreOwners_eq _ _ _ xs _ hr (by omega) _ H0.out).mono ?_
      rintro e w1 ⟨rfl, rfl⟩
      go_wp2_with fail
      refine (isGuest_eq H1.out _).mono ?_
      rintro e w1 ⟨rfl, rfl⟩
      go_wp2
      go_ret3
      exact GrPost.no (by unfold grOk; rw [H0.out, H1.out]; rfl) rfl (own_nil _ _) (Below.refl _ _)
    · cases h2 : inB k 1 (n : Int)
      all_goals have H2 := Lib.hid h2
      all_goals clear h2
      · go_enter Try.func36, Try.ntmps36
        go_wp2_with fail
        refine (i_AreOwners_eq _ _ _ xs _ hr (by omega) _ H0.out).mono ?_
        rintro e w1 ⟨rfl, rfl⟩
        go_wp2_with fail
        refine (isGuest_eq H1.out _).mono ?_
        rintro e w1 ⟨rfl, rfl⟩
        go_wp2_with fail
        refine (inside_eq H2.out _).mono ?_
        rintro e w1 ⟨rfl, rfl⟩
        go_wp2
        go_ret3
        exact GrPost.no (by unfold grOk; rw [grNo (xs := xs) (k := k) (by rw [HL.out]; exact H2.out)]; simp) rfl (own_nil _ _) (Below.refl _ _)
      · go_enter Try.func36, Try.ntmps36
        go_wp2_with fail
        refine (i_AreOwners_eq _ _ _ xs _ hr (by omega) _ H0.out).mono ?_
        rintro e w1 ⟨rfl, rfl⟩
        go_wp2_with fail
        refine (isGuest_eq H1.out _).mono ?_
        rintro e w1 ⟨rfl, rfl⟩
        go_wp2_with fail
        refine (inside_eq H2.out _).mono ?_
        rintro e w1 ⟨rfl, rfl⟩
        obtain ⟨hk1', hk2'⟩ := inB_iff.1 H2.out
        obtain ⟨k, rfl⟩ := Int.eq_ofNat_of_zero_le (show 0 ≤ k by omega)
        have hk1 : 1 ≤ k := by omega
        have hkn : k ≤ n := by omega
        go_wp2
        go_loopw [9] (fun v wr => ∃ f : Nat, f ≤ n ∧ v = .int .i64 (f : Int) ∧ Hid (∀ i, i < f → zB xs i k = false) ∧ Below w.heap.size w wr) (fun v _ => n + 1 - (intOf v).toNat)
        case atStart => exact ⟨0, Nat.zero_le _, rfl, fun i hi => absurd hi (by omega), Below.refl _ _⟩
        case round =>
          obtain ⟨f, hf, rfl, hz, hB0⟩ := hrel
          by_cases hlt : f + k ≤ n
          · have h1 : (f : Int) + (k : Int) ≤ (n : Int) := by omega
            have h2 : (0 : Int) ≤ (f : Int) := by omega
            have hrw := hr.keep hB0
            obtain ⟨b, o, x, rfl, hbl, hxk, hc⟩ := hrw.at_ (show f < n by omega)
            have h3 : (f : Int) ≤ (f : Int) + (k : Int) := by omega
            have h4 : (f : Int) + (k : Int) ≤ (c : Int) := by omega
            have h5 : ¬ c = f := by omega
            clear hc hxk
            have hcut := hrw.cut_ hlt rfl
            have hwf := Lib.hid (window_full (xs := xs) (f := f) (k := k) (by rw [HL.out]; omega))
            have hul : (framesL ((xs.drop f).take k) 0).length ≤ k := by
              have := framesL_len (xs := (xs.drop f).take k) (g := 0)
              rw [List.length_take] at this; omega
            go_wp2_with fail
            refine (framesOf_any _ k _ ((xs.drop f).take k) _ _ hcut (by omega)).mono ?_
            rintro e w1 ⟨A9, c9, rfl, ho9, hb9⟩
            have hB1 := below_next hB0 hb9
            clear ho9 hb9 hcut
            cases hzz : zB xs f k
            · have HZ := Lib.hid hzz
              have h6 : ((framesL ((xs.drop f).take k) 0).length : Int) < (k : Int) := by
                have : (framesL ((xs.drop f).take k) 0).length ≠ k := fun e => by
                  have := hwf.out.1 e
                  rw [hzz] at this; cases this
                omega
              clear hzz
              go_wp2
              go_roundw
              case rel => exact ⟨f + 1, by omega, by go_num, fun i hi => if h : i = f then by rw [h]; exact HZ.out else hz.out i (by omega), hB1⟩
              case measure => simp [intOf]; omega
            · have HZ := Lib.hid hzz
              have h6 : ¬ ((framesL ((xs.drop f).take k) 0).length : Int) < (k : Int) := by
                have := hwf.out.2 hzz
                omega
              clear hzz
              have hfk : f + k ≤ n := hlt
              go_wp2_with fail
              refine (copyInts_any _ _ _ xs _ (hr.keep hB1) hn).mono ?_
              rintro e w2 ⟨A1, c1, rfl, ho1, hb1⟩
              have HO := Lib.hid (own_less ho1 hB1.size)
              have HB := Lib.hid (below_next hB1 hb1)
              clear ho1 hb1 hB1 hB0 hrw
              go_wp2
              go_loopw [11, 48] (fun v u wq => ∃ q : Nat, q ≤ k ∧ u = .int .i64 (q : Int) ∧ Own wq w.heap.size (ti A1 n c1 (runL xs f q g)) ∧ Below w.heap.size w wq) (fun v u _ => k - (intOf u).toNat)
              case atStart => exact ⟨0, Nat.zero_le _, rfl, HO.out, HB.out⟩
              case round =>
                obtain ⟨q, hq, rfl, hO, hB⟩ := hrel
                by_cases hqk : q < k
                · obtain ⟨gg, rfl⟩ := own_some hO (by omega)
                  have h0 : (0 : Int) ≤ (f : Int) + (q : Int) := by omega
                  have h1 : (f : Int) + (q : Int) < (n : Int) := by omega
                  obtain ⟨⟨y, hy⟩, hfr, hs, hgr⟩ := own_store hO (show f + q < n by omega) g
                  have HS := Lib.hid hs
                  have hgb := (World.ownsRow.lt hO gg rfl).1
                  clear hs hgr hO HO HB
                  go_wp2
                  go_roundw
                  case rel =>
                    refine ⟨q + 1, by omega, by go_num, ?_, hB.setCell (by exact hgb) _⟩
                    rw [runL_succ]
                    exact HS.out
                  case measure => simp [intOf]; omega
                · have hqe : q = k := by omega
                  have HO2 := Lib.hid hO
                  clear hO
                  go_wp2
                  go_ret3
                  subst hqe
                  have hfr := Lib.hid (firstRun_some (xs := xs) (l := q) (f := f) (by have := HL.out; omega) HZ.out hz.out)
                  refine GrPost.yes (f := f) (by unfold grOk; rw [H0.out, H1.out, Int.toNat_natCast, hfr.out]; simp; omega) (by rw [Int.toNat_natCast]; exact hfr.out) HL.out rfl (by rw [Int.toNat_natCast]; exact HO2.out) hB
          · have h1 : ¬ (f : Int) + (k : Int) ≤ (n : Int) := by omega
            have hnone := Lib.hid (firstRun_none (xs := xs) (l := k) (fun i hi => if h : i < f then hz.out i h else zB_far (by omega) (by have := HL.out; omega)))
            go_wp2
            go_ret3
            exact GrPost.no (by unfold grOk; rw [Int.toNat_natCast, hnone.out]; simp) rfl (own_nil _ _) hB0
end Go.Proofs.Ytppnmpkefchknaa
