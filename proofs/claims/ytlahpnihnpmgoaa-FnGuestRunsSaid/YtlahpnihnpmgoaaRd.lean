/- Contract of the reference's ReachedBy: the rising list of what is reached. Lengths at most 2^20. -/
import Derived.Test.YtlahpnihnpmgoaaRc
import Derived.Test.YtlahpnihnpmgoaaPrA
import Derived.Deep.CutBlock
namespace Go.Proofs.Ytlahpnihnpmgoaa
open Go.RowKit
set_option linter.unusedVariables false
set_option linter.unusedSimpArgs false

/-- the list that ReachedBy yields -/
def RL (ok : Bool) (ps : List RInstruction) (o : List Int) : Prop := if ok then Rise o ∧ ∀ x, x ∈ o ↔ Rch ps x else o = []
theorem RL.unique {ok : Bool} {ps : List RInstruction} {o o' : List Int} (h : RL ok ps o) (h' : RL ok ps o') : o = o' := by
  cases ok
  · exact Eq.trans h (Eq.symm h')
  · exact rise_eq h.1 h'.1 fun x => (h.2 x).trans (h'.2 x).symm
/-- what ReachedBy leaves -/
def RPost (ok : Bool) (ps : List RInstruction) (w : World) (e : Ending) (w' : World) : Prop :=
  ∃ (A : Option Addr) (c L : Nat) (o : List Int), e = .returned (.tuple #[.slice A L c, .bool ok]) ∧ Own w' w.heap.size (ti A L c o) ∧ RL ok ps o ∧ L ≤ 16 ∧ Below w.heap.size w w'
theorem prog_bd {ps : List RInstruction} (h : progB ps = true) : 1 ≤ ps.length ∧ ps.length ≤ 16 := by
  unfold progB at h
  rw [Bool.and_eq_true, inB_iff] at h
  omega
theorem prog_ins {ps : List RInstruction} (h : progB ps = true) {k : Nat} {x : RInstruction} (hx : ps[k]? = some x) : (0 ≤ x.f0 ∧ x.f0 ≤ 9) ∧ 0 ≤ x.f3 ∧ x.f3 ≤ 65535 := by
  unfold progB at h
  rw [Bool.and_eq_true] at h
  have h1 : ps.any badIns = false := by simpa using h.2
  have h2 := List.any_eq_false.1 h1 x (List.mem_of_getElem? hx)
  have h3 : insB x.f0 x.f1 x.f2 x.f3 = true := by simpa [badIns] using h2
  unfold insB at h3
  rw [Bool.and_eq_true, Bool.and_eq_true, Bool.and_eq_true, inB_iff, inB_iff, inB_iff, inB_iff] at h3
  have h4 : uN x.f0 ≤ 65535 := by unfold uN; (repeat' split) <;> omega
  omega
theorem insA_at {ps : List RInstruction} {k : Nat} {x : RInstruction} (hx : ps[k]? = some x) : insA ps (k : Int) = x := by
  unfold insA
  rw [Int.toNat_natCast, hx]; rfl
theorem ClB.next {ps : List RInstruction} {l : List Int} {k : Nat} (h : ClB ps l k) (hs : (k : Int) ∈ l → ∀ j ∈ sucL (insA ps k) k, j < (ps.length : Int) → j ∈ l) : ClB ps l (k + 1) := by
  intro i hi hlt j hj hl
  by_cases e : i = (k : Int)
  · subst e; exact hs hi j hj hl
  · exact h i hi (by omega) j hj hl
theorem suc_halt {x : RInstruction} {i : Int} (h : x.f0 = 0) : sucL x i = [] := by simp [sucL, h]
theorem suc_mem {x : RInstruction} {i j : Int} (h : x.f0 ≠ 0) : j ∈ sucL x i ↔ (x.f0 ≠ 7 ∧ j = i + 1) ∨ ((x.f0 = 7 ∨ x.f0 = 8) ∧ j = x.f3) := by
  unfold sucL
  rw [if_neg h]
  by_cases h7 : x.f0 = 7
  · simp [h7]
  · rw [if_neg h7]
    by_cases h8 : x.f0 = 8
    · simp [h8]
    · simp [h7, h8]
def lenV : Value → Nat
  | .slice _ l _ => l
  | _ => 0
def bitV : Value → Nat
  | .bool true => 1
  | _ => 0
/-- how far the loops of the reference are -/
def SpI (ps : List RInstruction) (w : World) (k len0 : Nat) (o m : Value) (wr : World) : Prop :=
  ∃ (A : Option Addr) (c L : Nat) (l : List Int) (b : Bool), o = .slice A L c ∧ m = .bool b ∧ 1 ≤ L ∧ L ≤ 16 ∧ len0 ≤ L ∧ (b = true → len0 < L) ∧ Hid (Own wr w.heap.size (ti A L c l)) ∧ Hid (Below w.heap.size w wr) ∧ Hid (Spc ps l) ∧ Hid (b = false → ClB ps l k)
/-- within a round, at an instruction that is reached -/
def SpJ (ps : List RInstruction) (w : World) (k len0 g : Nat) (cs : Array Value) (F : List Int → Prop) (o m : Value) (wr : World) : Prop :=
  ∃ (A : Option Addr) (c L : Nat) (l : List Int) (b : Bool), o = .slice A L c ∧ m = .bool b ∧ 1 ≤ L ∧ L ≤ 16 ∧ len0 ≤ L ∧ (b = true → len0 < L) ∧ Hid (Own wr w.heap.size (ti A L c l)) ∧ Hid (Below w.heap.size w wr) ∧ Hid (Spc ps l) ∧ Hid (b = false → ClB ps l k) ∧ Hid (Box wr g 52 cs) ∧ Hid ((k : Int) ∈ l) ∧ Hid (F l)

set_option maxRecDepth 100000 in
set_option maxHeartbeats 8000000 in
theorem s_ReachedBy_any (Ap : Option Addr) (np cp : Nat) (ps : List RInstruction) (w : World) (hr : Rd w 4 Ap np (J cInstruction ps)) (hn : np ≤ 1048576) (r : Bool) (hR : progB ps = r) :
    Calls Try.prog 6 #[.slice Ap np cp] w (RPost r ps w) := by
  have hl := hr.lenS posInstruction cInstruction_len
  have HR := Lib.hid hR
  clear hR
  cases r
  · go_enter Try.func6, Try.ntmps6
    go_wp2_with fail
    refine (l3Program_eq Ap np cp ps _ hr (by omega) false HR.out).mono ?_
    rintro e w1 ⟨rfl, hb1⟩
    go_wp2
    go_ret2
    exact ⟨_, _, _, [], rfl, own_less (own_empty 1 (Box.new w1 _ _) (Nat.le_refl _)) hb1.size, rfl, by omega, below_next hb1 (below_alloc _ _)⟩
  · have hnp := prog_bd HR.out
    go_enter Try.func6, Try.ntmps6
    go_wp2_with fail
    refine (l3Program_eq Ap np cp ps _ hr (by omega) true HR.out).mono ?_
    rintro e w1 ⟨rfl, hb1⟩
    have HB1 := Lib.hid (below_next hb1 (below_alloc w1 (.cells #[.int .i64 0] 3)))
    have HO1 := Lib.hid (show Own (w1.alloc (.cells #[.int .i64 0] 3)) w.heap.size (ti (some ⟨w1.heap.size, 0, none⟩) 1 1 [0]) from own_less (own_bx w1 3 1 #[.int .i64 0] rfl) hb1.size)
    have HS1 := Lib.hid (Spc.start (ps := ps) (by omega))
    clear hb1
    go_wp2
    go_loopw [4, 5, 6, 7, 8] (fun o m _ _ _ wr => ∃ (A : Option Addr) (c L : Nat) (l : List Int) (b : Bool), o = .slice A L c ∧ m = .bool b ∧ 1 ≤ L ∧ L ≤ 16 ∧ Hid (Own wr w.heap.size (ti A L c l)) ∧ Hid (Below w.heap.size w wr) ∧ Hid (Spc ps l) ∧ Hid (b = false → ClB ps l np)) (fun o m _ _ _ _ => 2 * (16 - lenV o) + bitV m)
    case atStart => exact ⟨_, 1, 1, [0], true, rfl, rfl, by omega, by omega, HO1, HB1, HS1, Lib.hid (fun h => by cases h)⟩
    case round =>
      obtain ⟨A, c, L, l, b, rfl, rfl, hL1, hL16, HO, HB, HS, HC⟩ := hrel
      clear HO1 HB1 HS1
      cases b
      · go_wp2
        go_ret2
        exact ⟨A, c, L, l, rfl, HO.out, ⟨HS.out.rise, (HS.out.done (by rw [hl]; exact HC.out (by first | rfl | trivial))).mem⟩, hL16, HB.out⟩
      · clear HC
        go_wp2
        go_loopw [4, 5, 6, 7, 8] (fun o m i _ _ wr => ∃ k : Nat, k ≤ np ∧ i = .int .i64 k ∧ SpI ps w k L o m wr) (fun _ _ i _ _ _ => np - (intOf i).toNat)
        case atStart => exact ⟨0, by omega, rfl, A, c, L, l, false, rfl, rfl, hL1, hL16, by omega, (fun h => by cases h), HO, HB, HS, Lib.hid (fun _ => fun i hi hlt => by have := (HS.out.bd i hi).1; omega)⟩
        case round =>
          obtain ⟨k, hk, rfl, A, c, L2, l, b, rfl, rfl, hL1, hL16, hL0, hLb, HO, HB, HS, HC⟩ := hrel
          have hrB := Lib.hid (hr.keep HB.out)
          by_cases hlt : k < np
          · obtain ⟨bp, op_, x, rfl, hbl, hxk, hc0, hc1, hc2, hc3⟩ := atInstruction hrB.out hlt
            obtain ⟨hx0, hx3⟩ := prog_ins HR.out hxk.out
            have HA := Lib.hid (insA_at hxk.out)
            have HXK := Lib.hid hxk.out
            have h0 : (0 : Int) ≤ (k : Int) := by omega
            have h1 : (k : Int) < (np : Int) := by omega
            have HO2 := Lib.hid (HO.out.mono (below_alloc wr (.cells #[.int .i64 x.f0, .int .i64 x.f1, .int .i64 x.f2, .int .i64 x.f3] 52)))
            have HB2 := Lib.hid (HB.out.alloc HB.out.size (.cells #[.int .i64 x.f0, .int .i64 x.f1, .int .i64 x.f2, .int .i64 x.f3] 52))
            have HX2 := Lib.hid (Box.new wr 52 #[.int .i64 x.f0, .int .i64 x.f1, .int .i64 x.f2, .int .i64 x.f3])
            clear HO HB hxk hrB
            have C2 := HX2.out.cell
            cases hm : decide ((k : Int) ∈ l)
            · have HMk := Lib.hid hm
              clear hm
              go_wp2_with fail
              refine (l1Has_eq A L2 c l (k : Int) _ HO2.out.rd (by omega) false HMk.out).mono ?_
              rintro e w3 ⟨rfl, rfl⟩
              go_wp2
              go_roundw
              case rel =>
                refine ⟨k + 1, by omega, by go_num, A, c, L2, l, b, rfl, rfl, hL1, hL16, hL0, hLb, HO2, HB2, HS, Lib.hid (fun hb => (HC.out hb).next (fun hi => ?_))⟩
                have := HMk.out
                simp [hi] at this
              case measure => simp [intOf]; omega
            · have HMk := Lib.hid hm
              have HIn := Lib.hid (show (k : Int) ∈ l by simpa using hm)
              clear hm
              go_wp2_with fail
              refine (l1Has_eq A L2 c l (k : Int) _ HO2.out.rd (by omega) true HMk.out).mono ?_
              rintro e w3 ⟨rfl, rfl⟩
              by_cases hz : x.f0 = 0
              · have HZ := Lib.hid hz
                have hzb : (x.f0 == 0) = true := by simp [hz]
                clear hz
                go_wp2
                go_roundw
                case rel =>
                  refine ⟨k + 1, by omega, by go_num, A, c, L2, l, b, rfl, rfl, hL1, hL16, hL0, hLb, HO2, HB2, HS, Lib.hid (fun hb => (HC.out hb).next (fun hi j hj => ?_))⟩
                  rw [HA.out, suc_halt HZ.out] at hj
                  cases hj
                case measure => simp [intOf]; omega
              · have HZ := Lib.hid hz
                have hzb : (x.f0 == 0) = false := by simp [hz]
                clear hz
                go_upto_region 13 with (fail)
                obtain ⟨w2, hw2⟩ : ∃ w2, w2 = wr.alloc (.cells #[.int .i64 x.f0, .int .i64 x.f1, .int .i64 x.f2, .int .i64 x.f3] 52) := ⟨_, rfl⟩
                obtain ⟨gx, hgx⟩ : ∃ gx, gx = wr.heap.size := ⟨_, rfl⟩
                rw [← hw2, ← hgx]
                rw [← hw2] at HO2 HB2 HX2 C2
                rw [← hgx] at HX2 C2
                clear hw2 hgx
                obtain ⟨t1, ht1⟩ : ∃ t1 : Bool, t1 = (x.f0 != 7 && (decide ((k : Int) + 1 < (np : Int)) && !decide ((k : Int) + 1 ∈ l))) := ⟨_, rfl⟩
                have HT1 := Lib.hid ht1
                clear ht1
                go_cut [50] from 36 to 49 (fun t wx => t = .bool t1 ∧ wx = w2)
                case first =>
                  by_cases h7 : x.f0 = 7
                  · have h7b : (x.f0 != 7) = false := by simp [h7]
                    go_wp2
                    go_meet
                    exact ⟨by rw [HT1.out, h7b]; rfl, by first | rfl | trivial⟩
                  · have h7b : (x.f0 != 7) = true := by simp [h7]
                    by_cases hn1 : (k : Int) + 1 < (np : Int)
                    · cases hm : decide ((k : Int) + 1 ∈ l)
                      all_goals
                        have HMk2 := Lib.hid hm
                        have H7 := Lib.hid h7b
                        have HN1 := Lib.hid hn1
                        clear hm
                        go_wp2_with fail
                        refine (l1Has_eq A L2 c l ((k : Int) + 1) _ HO2.out.rd (by omega) _ HMk2.out).mono ?_
                        rintro e w4 ⟨rfl, rfl⟩
                        go_wp2
                        go_meet
                        exact ⟨by rw [HT1.out, H7.out, HMk2.out, decide_eq_true HN1.out]; rfl, by first | rfl | trivial⟩
                    · go_wp2
                      go_meet
                      exact ⟨by rw [HT1.out, decide_eq_false (show ¬ (k : Int) + 1 < (np : Int) by omega)]; simp, by first | rfl | trivial⟩
                case rest =>
                  obtain ⟨rfl, rfl⟩ := hcut
                  go_upto_if 50 with (fail)
                  go_cut [4, 5] from 51 to 53 (fun o m wx => SpJ ps w k L gx #[.int .i64 x.f0, .int .i64 x.f1, .int .i64 x.f2, .int .i64 x.f3] (fun l => x.f0 ≠ 7 → (k : Int) + 1 < (np : Int) → (k : Int) + 1 ∈ l) o m wx)
                  case first =>
                    cases t1
                    · go_wp2
                      go_meet
                      refine ⟨A, c, L2, l, b, rfl, rfl, hL1, hL16, hL0, hLb, HO2, HB2, HS, HC, HX2, HIn, Lib.hid (fun h h2 => ?_)⟩
                      have h3 := HT1.out
                      have h4 : (x.f0 != 7) = true := by simp [h]
                      rw [h4, decide_eq_true h2] at h3
                      simpa using h3
                    · have h3 := HT1.out.symm
                      rw [Bool.and_eq_true, Bool.and_eq_true, decide_eq_true_eq, Bool.not_eq_true', decide_eq_false_iff_not] at h3
                      obtain ⟨h7, hn1, hni⟩ := h3
                      have H7 := Lib.hid (show x.f0 ≠ 7 by simpa using h7)
                      have HN1 := Lib.hid hn1
                      have HNi := Lib.hid hni
                      obtain ⟨g2, rfl, _, hg2⟩ := own_someS HO2.out (by show 0 < L2; omega)
                      have hlc := (show L2 ≤ c ∧ c ≤ maxLen from own_cap HO2.out).1
                      have hLl : l.length = L2 := HO2.out.rd.len
                      clear h7 hn1 hni
                      go_wp2_with fail
                      refine (l1Put_new g2 0 L2 c l ((k : Int) + 1) _ HO2.out.rd (by omega) hlc HNi.out hg2).mono ?_
                      rintro e w5 ⟨A5, c5, rfl, ho5, hb5⟩
                      have HS5 := Lib.hid (HS.out.put HIn.out (j := (k : Int) + 1) (by rw [HA.out]; exact (suc_mem HZ.out).2 (.inl ⟨H7.out, rfl⟩)) (by omega) (by rw [hl]; exact HN1.out))
                      have hL5 : L2 + 1 ≤ 16 := by
                        have h5 := HS5.out.len
                        rw [putL_len HNi.out] at h5
                        omega
                      have HO5 := Lib.hid (own_less ho5 HB2.out.size)
                      have HB5 := Lib.hid (below_next HB2.out hb5)
                      have HX5 := Lib.hid (HX2.out.keep hb5)
                      clear ho5 hb5
                      go_wp2
                      go_meet
                      exact ⟨A5, c5, L2 + 1, _, true, rfl, rfl, by omega, hL5, by omega, (fun _ => by omega), HO5, HB5, HS5, Lib.hid (fun h => by cases h), HX5, Lib.hid (putL_mem.2 (.inr HIn.out)), Lib.hid (fun _ _ => putL_mem.2 (.inl rfl))⟩
                  case rest =>
                    clear HO2 HB2 HX2 C2 HS HC HMk HIn hLb hL0 hL1 hL16 HT1
                    obtain ⟨A, c, L2, l, b, rfl, rfl, hL1, hL16, hL0, hLb, HO2, HB2, HS, HC, HX2, HIn, HF⟩ := hcut
                    have C2 := HX2.out.cell
                    go_upto_region 16 with (fail)
                    obtain ⟨t2, ht2⟩ : ∃ t2 : Bool, t2 = ((x.f0 == 7 || x.f0 == 8) && (decide (x.f3 < (np : Int)) && !decide (x.f3 ∈ l))) := ⟨_, rfl⟩
                    have HT2 := Lib.hid ht2
                    clear ht2
                    go_cut [75] from 54 to 74 (fun t wx => t = .bool t2 ∧ wx = wc)
                    case first =>
                      by_cases h78 : x.f0 = 7 ∨ x.f0 = 8
                      · have h7b : (x.f0 == 7 || x.f0 == 8) = true := by rcases h78 with h | h <;> simp [h]
                        have H7 := Lib.hid h7b
                        have hor : x.f0 = 7 ∨ (x.f0 ≠ 7 ∧ x.f0 = 8) := by omega
                        clear h78 h7b
                        by_cases hn1 : x.f3 < (np : Int)
                        · cases hm : decide (x.f3 ∈ l)
                          all_goals
                            have HMk2 := Lib.hid hm
                            have HN1 := Lib.hid hn1
                            clear hm
                            rcases hor with h7 | ⟨h7, h8⟩
                            · have q1 : (x.f0 == 7) = true := by simp [h7]
                              clear h7
                              go_wp2_with fail
                              refine (l1Has_eq A L2 c l x.f3 _ HO2.out.rd (by omega) _ HMk2.out).mono ?_
                              rintro e w4 ⟨rfl, rfl⟩
                              go_wp2
                              go_meet
                              exact ⟨by rw [HT2.out, H7.out, HMk2.out, decide_eq_true HN1.out]; rfl, by first | rfl | trivial⟩
                            · have q1 : (x.f0 == 7) = false := by simp [h7]
                              have q2 : (x.f0 == 8) = true := by simp [h8]
                              clear h7 h8
                              go_wp2_with fail
                              refine (l1Has_eq A L2 c l x.f3 _ HO2.out.rd (by omega) _ HMk2.out).mono ?_
                              rintro e w4 ⟨rfl, rfl⟩
                              go_wp2
                              go_meet
                              exact ⟨by rw [HT2.out, H7.out, HMk2.out, decide_eq_true HN1.out]; rfl, by first | rfl | trivial⟩
                        · have hd : Hid (decide (x.f3 < (np : Int)) = false) := decide_eq_false hn1
                          rcases hor with h7 | ⟨h7, h8⟩
                          · have q1 : (x.f0 == 7) = true := by simp [h7]
                            clear h7
                            go_wp2
                            go_meet
                            exact ⟨by rw [HT2.out, hd.out]; simp, by first | rfl | trivial⟩
                          · have q1 : (x.f0 == 7) = false := by simp [h7]
                            have q2 : (x.f0 == 8) = true := by simp [h8]
                            clear h7 h8
                            go_wp2
                            go_meet
                            exact ⟨by rw [HT2.out, hd.out]; simp, by first | rfl | trivial⟩
                      · have q1 : (x.f0 == 7) = false := by simp; omega
                        have q2 : (x.f0 == 8) = false := by simp; omega
                        go_wp2
                        go_meet
                        exact ⟨by rw [HT2.out, q1, q2]; rfl, by first | rfl | trivial⟩
                    case rest =>
                      obtain ⟨rfl, rfl⟩ := hcut
                      have HSC := Lib.hid (show ∀ l2 : List Int, (∀ y ∈ l, y ∈ l2) → ((x.f0 = 7 ∨ x.f0 = 8) → x.f3 < (np : Int) → x.f3 ∈ l2) → ∀ j ∈ sucL (insA ps k) k, j < (ps.length : Int) → j ∈ l2 from fun l2 hsub h2 j hj hjl => by
                        rw [HA.out, suc_mem HZ.out] at hj
                        rw [hl] at hjl
                        rcases hj with ⟨h7, rfl⟩ | ⟨h78, rfl⟩
                        · exact hsub _ (HF.out h7 hjl)
                        · exact h2 h78 hjl)
                      cases t2
                      · have HF2 := Lib.hid (show (x.f0 = 7 ∨ x.f0 = 8) → x.f3 < (np : Int) → x.f3 ∈ l from fun h h2 => by
                          have h3 := HT2.out
                          have h4 : (x.f0 == 7 || x.f0 == 8) = true := by rcases h with h | h <;> simp [h]
                          rw [h4, decide_eq_true h2] at h3
                          simpa using h3)
                        go_wp2
                        go_roundw
                        case rel => exact ⟨k + 1, by omega, by go_num, A, c, L2, l, b, rfl, rfl, hL1, hL16, hL0, hLb, HO2, HB2, HS, Lib.hid (fun hb => (HC.out hb).next (fun _ => HSC.out l (fun y hy => hy) HF2.out))⟩
                        case measure => simp [intOf]; omega
                      · have h3 := HT2.out.symm
                        rw [Bool.and_eq_true, Bool.and_eq_true, decide_eq_true_eq, Bool.not_eq_true', decide_eq_false_iff_not, Bool.or_eq_true, beq_iff_eq, beq_iff_eq] at h3
                        obtain ⟨h7, hn1, hni⟩ := h3
                        have H7 := Lib.hid h7
                        have HN1 := Lib.hid hn1
                        have HNi := Lib.hid hni
                        obtain ⟨g2, rfl, _, hg2⟩ := own_someS HO2.out (by show 0 < L2; omega)
                        have hlc := (show L2 ≤ c ∧ c ≤ maxLen from own_cap HO2.out).1
                        have hLl : l.length = L2 := HO2.out.rd.len
                        clear h7 hn1 hni
                        go_wp2_with fail
                        refine (l1Put_new g2 0 L2 c l x.f3 _ HO2.out.rd (by omega) hlc HNi.out hg2).mono ?_
                        rintro e w5 ⟨A5, c5, rfl, ho5, hb5⟩
                        have HS5 := Lib.hid (HS.out.put HIn.out (j := x.f3) (by rw [HA.out]; exact (suc_mem HZ.out).2 (.inr ⟨H7.out, rfl⟩)) (by omega) (by rw [hl]; exact HN1.out))
                        have hL5 : L2 + 1 ≤ 16 := by
                          have h5 := HS5.out.len
                          rw [putL_len HNi.out] at h5
                          omega
                        have HO5 := Lib.hid (own_less ho5 HB2.out.size)
                        have HB5 := Lib.hid (below_next HB2.out hb5)
                        clear ho5 hb5
                        go_wp2
                        go_roundw
                        case rel => exact ⟨k + 1, by omega, by go_num, A5, c5, L2 + 1, _, true, rfl, rfl, by omega, hL5, by omega, (fun _ => by omega), HO5, HB5, HS5, Lib.hid (fun h => by cases h)⟩
                        case measure => simp [intOf]; omega
          · obtain rfl : k = np := by omega
            go_wp2
            go_roundw
            case rel => exact ⟨A, c, L2, l, b, rfl, rfl, hL1, hL16, HO, HB, HS, HC⟩
            case measure =>
              show 2 * (16 - L2) + bitV (.bool b) < 2 * (16 - L) + 1
              cases b
              · show 2 * (16 - L2) + 0 < _
                omega
              · have := hLb rfl
                show 2 * (16 - L2) + 1 < _
                omega
end Go.Proofs.Ytlahpnihnpmgoaa
