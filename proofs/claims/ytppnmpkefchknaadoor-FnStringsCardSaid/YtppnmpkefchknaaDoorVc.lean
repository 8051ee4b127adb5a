/- Contracts of VerifyChecksum in the program and in the reference. Lengths at most 2^20. -/
import Derived.Test.YtppnmpkefchknaaDoorAc
import Derived.Test.YtppnmpkefchknaaDoorSp0
namespace Go.Proofs.YtppnmpkefchknaaDoor
open Go.RowKit
set_option linter.unusedVariables false
set_option linter.unusedSimpArgs false

/-- what stands before the first byte b -/
def preL (b : UInt8) : List UInt8 → List UInt8
  | [] => []
  | c :: l => if c = b then [] else c :: preL b l
theorem stB_cons (b c : UInt8) (l : List UInt8) : stB b (c :: l) = (c == b || stB b l) := by simp [stB]
theorem preL_all {b : UInt8} : ∀ {l : List UInt8}, stB b l = false → preL b l = l
  | [], _ => rfl
  | c :: l, h => by
    rw [stB_cons, Bool.or_eq_false_iff] at h
    have hc : ¬ c = b := by simpa using h.1
    rw [preL, if_neg hc, preL_all h.2]
theorem stB_pre (b : UInt8) : ∀ l : List UInt8, stB b (preL b l) = false
  | [] => rfl
  | c :: l => by
    rw [preL]
    split
    · rfl
    · rename_i hc
      rw [stB_cons, stB_pre b l]; simp [hc]
theorem preL_len (b : UInt8) : ∀ l : List UInt8, (preL b l).length ≤ l.length
  | [] => Nat.le_refl _
  | c :: l => by
    have := preL_len b l
    rw [preL]; split <;> simp <;> omega
theorem preL_app {b : UInt8} : ∀ {m : List UInt8} (x : List UInt8), stB b m = true → preL b (m ++ x) = preL b m
  | [], x, h => by cases h
  | c :: m, x, h => by
    rw [List.cons_append, preL, preL]
    by_cases hc : c = b
    · rw [if_pos hc, if_pos hc]
    · rw [stB_cons] at h
      have h2 : stB b m = true := by simpa [hc] using h
      rw [if_neg hc, if_neg hc, preL_app x h2]
theorem preL_app2 {b : UInt8} : ∀ {m : List UInt8} (x : List UInt8), stB b m = false → preL b (m ++ x) = m ++ preL b x
  | [], x, h => rfl
  | c :: m, x, h => by
    rw [stB_cons, Bool.or_eq_false_iff] at h
    have hc : ¬ c = b := by simpa using h.1
    rw [List.cons_append, preL, if_neg hc, preL_app2 x h.2]; rfl
theorem stB_app (b : UInt8) (m x : List UInt8) : stB b (m ++ x) = (stB b m || stB b x) := by simp [stB]
/-- the head of a split -/
theorem spF_head (b : UInt8) (l : List UInt8) : ∀ k, k ≤ l.length → ((spF b (l.take k)).1 = [] ∧ (spF b (l.take k)).2 = l.take k ∧ stB b (l.take k) = false) ∨ ((∃ r, (spF b (l.take k)).1 = preL b (l.take k) :: r) ∧ stB b (l.take k) = true)
  | 0, _ => .inl ⟨rfl, rfl, rfl⟩
  | k + 1, hk => by
    have ih := spF_head b l k (by omega)
    have hc : l[k]? = some l[k] := List.getElem?_eq_getElem (by omega)
    rw [spF_at hc, take_snocA hc]
    generalize l.take k = m at ih
    generalize l[k] = c
    unfold spS
    by_cases hcb : c = b
    · rw [if_pos hcb]
      have hs : stB b (m ++ [c]) = true := by simp [stB, hcb]
      rcases ih with ⟨h1, h2, h3⟩ | ⟨⟨r, h1⟩, h3⟩
      · refine .inr ⟨⟨[], ?_⟩, hs⟩
        rw [h1, h2, preL_app2 [c] h3, preL, if_pos hcb, List.append_nil]; rfl
      · refine .inr ⟨⟨r ++ [(spF b m).2], ?_⟩, hs⟩
        rw [h1, preL_app [c] h3]; rfl
    · rw [if_neg hcb]
      rcases ih with ⟨h1, h2, h3⟩ | ⟨⟨r, h1⟩, h3⟩
      · refine .inl ⟨h1, by rw [h2], ?_⟩
        rw [stB_app, h3]; simp [stB, hcb]
      · refine .inr ⟨⟨r, ?_⟩, by rw [stB_app, h3]; rfl⟩
        show (spF b m).1 = _
        rw [h1, preL_app [c] h3]
theorem splitL_head (b : UInt8) (l : List UInt8) : (splitL b l)[0]? = some (preL b l) := by
  unfold splitL
  have h := spF_head b l l.length (Nat.le_refl _)
  rw [List.take_length] at h
  rcases h with ⟨h1, h2, h3⟩ | ⟨⟨r, h1⟩, h3⟩
  · rw [h1, h2, preL_all h3]; rfl
  · rw [h1]; rfl
def vcOk (l : List UInt8) : Bool := shortB l && (sealL (preL 35 l) == l)
theorem seal_st {t : List UInt8} : stB 35 (sealL t) = true := by
  unfold sealL stB
  simp

theorem take_index {b : UInt8} : ∀ {l : List UInt8}, stB b l = true → l.take (Lib.indexByte l b).toNat = preL b l
  | [], h => by cases h
  | c :: l, h => by
    by_cases hc : c = b
    · subst hc
      simp [Lib.indexByte, preL]
    · have h2 : stB b l = true := by rw [stB_cons] at h; simpa [hc] using h
      have ih := take_index h2
      rcases stB_index b l with ⟨_, h3⟩ | ⟨h3, _⟩
      · have e : Lib.indexByte (c :: l) b = Lib.indexByte l b + 1 := by
          have h5 : ¬ Lib.indexByte l b = -1 := by omega
          simp [Lib.indexByte, hc, h5]
        rw [e, preL, if_neg hc]
        have : (Lib.indexByte l b + 1).toNat = (Lib.indexByte l b).toNat + 1 := by omega
        rw [this, List.take_succ_cons, ih]
      · rw [h2] at h3; cases h3
theorem cut_yes {l : List UInt8} (h : stB 35 l = true) (w : World) (hn : l.length ≤ 1048576) (hm : Mx w) :
    Calls Tryd.prog 31 #[.string ⟨l.toArray⟩, .string ⟨#[35]⟩] w fun e w' => ∃ r, e = .returned (.tuple #[.string ⟨(preL 35 l).toArray⟩, .string r, .bool true]) ∧ Below w.heap.size w w' := by
  obtain ⟨m, hm⟩ := hm
  have h0 : 0 ≤ Lib.index l [35] := by
    rw [Lib.index_one]
    rcases stB_index 35 l with ⟨_, h2⟩ | ⟨h1, _⟩
    · exact h2
    · rw [h] at h1; cases h1
  refine (Any.strings_Cut { Tryd.laysM145 with } ⟨l.toArray⟩ ⟨#[35]⟩ m w (by show l.toArray.size < _; simp; omega) hm).mono fun e w' ⟨he, k, hw⟩ => ⟨⟨(l.drop ((Lib.index l [35]).toNat + 1)).toArray⟩, ?_, hw ▸ below_drewN (Below.refl _ _) k⟩
  have e1 : Lib.cut l [35] = (preL 35 l, l.drop ((Lib.index l [35]).toNat + 1), true) := by
    rw [Lib.cut, if_pos h0]
    congr 1
    rw [Lib.index_one]; exact take_index h
  rw [he]
  show Ending.returned (.tuple #[.string ⟨(Lib.cut l [35]).1.toArray⟩, .string ⟨(Lib.cut l [35]).2.1.toArray⟩, .bool (Lib.cut l [35]).2.2]) = _
  rw [e1]
theorem cut_no {l : List UInt8} (h : stB 35 l = false) (w : World) (hn : l.length ≤ 1048576) (hm : Mx w) :
    Calls Tryd.prog 31 #[.string ⟨l.toArray⟩, .string ⟨#[35]⟩] w fun e w' => e = .returned (.tuple #[.string ⟨l.toArray⟩, .string ⟨#[]⟩, .bool false]) ∧ Below w.heap.size w w' := by
  obtain ⟨m, hm⟩ := hm
  have h0 : ¬ 0 ≤ Lib.index l [35] := by
    rw [Lib.index_one]
    rcases stB_index 35 l with ⟨h1, _⟩ | ⟨_, h2⟩
    · rw [h] at h1; cases h1
    · rw [h2]; omega
  refine (Any.strings_Cut { Tryd.laysM145 with } ⟨l.toArray⟩ ⟨#[35]⟩ m w (by show l.toArray.size < _; simp; omega) hm).mono fun e w' ⟨he, k, hw⟩ => ⟨?_, hw ▸ below_drewN (Below.refl _ _) k⟩
  have e1 : Lib.cut l [35] = (l, [], false) := by rw [Lib.cut, if_neg h0]
  rw [he]
  show Ending.returned (.tuple #[.string ⟨(Lib.cut l [35]).1.toArray⟩, .string ⟨(Lib.cut l [35]).2.1.toArray⟩, .bool (Lib.cut l [35]).2.2]) = _
  rw [e1]

theorem vc_no_st {l : List UInt8} (h : stB 35 l = false) : vcOk l = false := by
  unfold vcOk
  rw [Bool.and_eq_false_iff]
  right
  rw [beq_eq_false_iff_ne]
  intro e
  have := seal_st (t := preL 35 l)
  rw [e, h] at this; cases this
theorem vc_ap {l : List UInt8} (h : apOk (preL 35 l) = false) : vcOk l = false := by
  unfold vcOk
  rw [Bool.and_eq_false_iff]
  by_cases hs : shortB l = true
  · right
    rw [beq_eq_false_iff_ne]
    intro e
    have h1 : shortB (preL 35 l) = true := by
      have := preL_len 35 l
      simp [shortB] at hs ⊢; omega
    have h2 : shortB (sealL (preL 35 l)) = true := by rw [e]; exact hs
    unfold apOk at h
    rw [h1, h2, stB_pre] at h
    cases h
  · left; simpa using hs
theorem vc_yes {l : List UInt8} (h : apOk (preL 35 l) = true) (e : sealL (preL 35 l) = l) : vcOk l = true := by
  unfold apOk at h
  simp only [Bool.and_eq_true] at h
  unfold vcOk
  rw [e]
  have := h.2.2
  rw [e] at this
  rw [this]; simp
theorem vc_ne {l : List UInt8} (e : ¬ sealL (preL 35 l) = l) : vcOk l = false := by
  unfold vcOk
  rw [Bool.and_eq_false_iff]
  right
  rw [beq_eq_false_iff_ne]; exact e

set_option maxHeartbeats 1000000 in
theorem i_VerifyChecksum_any (l : List UInt8) (w : World) (hn : l.length ≤ 1048576) (ht : Tab w) (hm : Mx w) :
    Calls Tryd.prog 14 #[.string ⟨l.toArray⟩] w fun e w' => e = .returned (.tuple #[.string (selB (vcOk l) (preL 35 l)), .bool (vcOk l)]) ∧ Below w.heap.size w w' := by
  have HT := Lib.hid ht
  have HM := Lib.hid hm
  clear ht hm
  cases hst : stB 35 l
  · have e0 := Lib.hid (vc_no_st hst)
    have HST := Lib.hid hst
    clear hst
    go_enter Tryd.func14, Tryd.ntmps14
    go_wp2_with fail
    refine (cut_no HST.out _ hn HM.out).mono ?_
    rintro e w1 ⟨rfl, hb⟩
    go_wp2
    go_ret2
    rw [e0.out]
    exact ⟨rfl, hb⟩
  have HST := Lib.hid hst
  obtain ⟨t, htt⟩ : ∃ t, t = preL 35 l := ⟨_, rfl⟩
  have htl : t.length ≤ 1048576 := by have := preL_len 35 l; rw [htt]; omega
  have hcut : ∀ w, Mx w → Calls Tryd.prog 31 #[.string ⟨l.toArray⟩, .string ⟨#[35]⟩] w fun e w' => ∃ r, e = .returned (.tuple #[.string ⟨t.toArray⟩, .string r, .bool true]) ∧ Below w.heap.size w w' := fun w hm => by rw [htt]; exact cut_yes HST.out w hn hm
  have HC := Lib.hid hcut
  have HTT := Lib.hid htt
  clear hst hcut htt
  cases hap : apOk t
  · have HAP := Lib.hid hap
    have e0 := Lib.hid (vc_ap (l := l) (by rw [← HTT.out]; exact hap))
    clear hap
    go_enter Tryd.func14, Tryd.ntmps14
    go_wp2_with fail
    refine (HC.out _ HM.out).mono ?_
    rintro e w1 ⟨r, rfl, hb⟩
    have HT1 := Lib.hid (HT.out.keep hb)
    have HM1 := Lib.hid (HM.out.keep hb)
    have hca := i_AppendChecksum_any t w1 htl HT1.out HM1.out
    rw [HAP.out] at hca
    have HCA := Lib.hid hca
    clear hca
    go_wp2_with fail
    refine (HCA.out).mono ?_
    rintro e w2 ⟨rfl, hb2⟩
    go_wp2
    go_ret2
    rw [e0.out]
    exact ⟨rfl, below_next hb hb2⟩
  · have HAP := Lib.hid hap
    obtain ⟨x, hx⟩ : ∃ x, x = sealL t := ⟨_, rfl⟩
    have HX := Lib.hid hx
    clear hap hx
    have hca : ∀ w, Tab w → Mx w → Calls Tryd.prog 12 #[.string ⟨t.toArray⟩] w fun e w' => e = .returned (.tuple #[.string ⟨x.toArray⟩, .bool true]) ∧ Below w.heap.size w w' := fun w h1 h2 => by
      have := i_AppendChecksum_any t w htl h1 h2
      rw [HAP.out, selB, if_pos rfl, ← HX.out] at this
      exact this
    have HCA := Lib.hid hca
    clear hca
    by_cases he : x = l
    · have e0 := Lib.hid (vc_yes (l := l) (by rw [← HTT.out]; exact HAP.out) (by rw [← HTT.out, ← HX.out]; exact he))
      have hq : (x == l) = true := by simp [he]
      clear he
      go_enter Tryd.func14, Tryd.ntmps14
      go_wp2_with fail
      refine (HC.out _ HM.out).mono ?_
      rintro e w1 ⟨r, rfl, hb⟩
      go_wp2_with fail
      refine (HCA.out _ (HT.out.keep hb) (HM.out.keep hb)).mono ?_
      rintro e w2 ⟨rfl, hb2⟩
      go_wp2
      go_ret2
      rw [e0.out, selB, if_pos rfl, ← HTT.out]
      exact ⟨rfl, below_next hb hb2⟩
    · have e0 := Lib.hid (vc_ne (l := l) (by rw [← HTT.out, ← HX.out]; exact he))
      have hq : (x == l) = false := by simp [he]
      clear he
      go_enter Tryd.func14, Tryd.ntmps14
      go_wp2_with fail
      refine (HC.out _ HM.out).mono ?_
      rintro e w1 ⟨r, rfl, hb⟩
      go_wp2_with fail
      refine (HCA.out _ (HT.out.keep hb) (HM.out.keep hb)).mono ?_
      rintro e w2 ⟨rfl, hb2⟩
      go_wp2
      go_ret2
      rw [e0.out]
      exact ⟨rfl, below_next hb hb2⟩

end Go.Proofs.YtppnmpkefchknaaDoor
