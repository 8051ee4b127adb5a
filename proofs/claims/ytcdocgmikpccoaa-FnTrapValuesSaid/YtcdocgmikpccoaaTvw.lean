/- Plain laws of loaded and stored values; contracts in the form that the law asks. No conditions. -/
import Derived.Test.YtcdocgmikpccoaaTrw
import Derived.Test.YtcdocgmikpccoaaTd
namespace Go.Proofs.Ytcdocgmikpccoaa
open Go.RowKit
set_option linter.unusedVariables false
set_option linter.unusedSimpArgs false

theorem lowI_bd {v wi : Int} : 0 ≤ lowI v wi ∧ lowI v wi ≤ 65535 := by unfold lowI; split <;> omega
theorem lowI_le {v wi : Int} (h : 0 ≤ v) : lowI v wi ≤ v := by
  unfold lowI
  split <;> omega
theorem lowI_low {v wi : Int} : lowI (lowI v wi) wi = lowI v wi := by unfold lowI; split <;> omega
/-- what a load that is told gives -/
theorem load_yes {c wi : Int} {s : Bool} {r i : Int} {rs : List Int} {v : Int} (h : loadOk c wi s r i rs v = true) :
    c = 3 ∧ s = false ∧ rs.length = 4 ∧ 0 ≤ v ∧ (∃ rn : Nat, r = (rn : Int) ∧ rn < 4 ∧ storedOk 3 wi true r i (rs.set rn (lowI v wi)) = true ∧ storedV wi r (rs.set rn (lowI v wi)) = lowI v wi ∧ loadL wi r rs v = rs.set rn (lowI v wi)) := by
  unfold loadOk at h
  simp only [Bool.and_eq_true, beq_iff_eq, Bool.not_eq_true', inB_iff] at h
  obtain ⟨h1, rfl, rfl, h4, h5, h6⟩ := h
  have hr := trap3 h1
  obtain ⟨rn, rfl⟩ := Int.eq_ofNat_of_zero_le hr.1
  have hl := regB_len h4
  refine ⟨rfl, rfl, hl, h5, rn, rfl, by omega, ?_, ?_, by simp [loadL]⟩
  · unfold storedOk
    have h1' : trapB 3 wi true rn i = true := by
      unfold trapB at h1 ⊢
      rw [if_neg (by decide), if_neg (by decide), if_pos rfl] at h1 ⊢
      exact h1
    rw [h1']
    simp only [Bool.true_and, beq_self_eq_true]
    unfold regB at h4 ⊢
    simp only [Bool.and_eq_true, beq_iff_eq, Bool.not_eq_true', List.length_set] at h4 ⊢
    refine ⟨h4.1, ?_⟩
    have h7 := h4.2
    rw [List.any_eq_false] at h7 ⊢
    intro x hx
    rcases List.mem_or_eq_of_mem_set hx with h8 | h8
    · exact h7 x h8
    · have := lowI_bd (v := v) (wi := wi)
      rw [h8]; simp [inB_iff]; exact this
  · unfold storedV
    rw [Int.toNat_natCast, List.getElem?_set_self (by omega)]
    exact lowI_low
section
variable {c wi : Int} {s : Bool} {r i : Int} {b : Bool} {q : Int}
theorem i_StoredValue_b {rs : List Int} (h : storedOk c wi s r i rs = b) (hq : selI b (storedV wi r rs) = q) (A : Option Addr) (n ca : Nat) (w : World) (hr : Rd w 1 A n (I rs)) (hn : n ≤ 1048576) :
    Calls Try.prog 22 #[trapV c wi s r i, .slice A n ca] w fun e w' => e = .returned (.tuple #[.int .i64 q, .bool b]) ∧ Below w.heap.size w w' := by subst h; subst hq; exact i_StoredValue_any c wi s r i A n ca rs w hr hn
theorem s_StoredValue_b {rs : List Int} (h : storedOk c wi s r i rs = b) (hq : selI b (storedV wi r rs) = q) (A : Option Addr) (n ca : Nat) (w : World) (hr : Rd w 1 A n (I rs)) (hn : n ≤ 1048576) :
    Calls Try.prog 24 #[trapV c wi s r i, .slice A n ca] w fun e w' => e = .returned (.tuple #[.int .i64 q, .bool b]) ∧ Below w.heap.size w w' := by subst h; subst hq; exact s_StoredValue_any c wi s r i A n ca rs w hr hn
theorem i_LoadValue_b {rs L : List Int} {v : Int} {m : Nat} (h : loadOk c wi s r i rs v = b) (hL : selL b (loadL wi r rs v) = L) (hm : L.length = m) (A : Option Addr) (n ca : Nat) (w : World) (hr : Rd w 1 A n (I rs)) (hn : n ≤ 1048576) :
    Calls Try.prog 19 #[trapV c wi s r i, .slice A n ca, .int .i64 v] w fun e w' => ∃ A' c', e = .returned (.tuple #[.slice A' m c', .bool b]) ∧ Own w' w.heap.size (ti A' m c' L) ∧ Below w.heap.size w w' := by
  subst h; subst hL; subst hm; exact i_LoadValue_any c wi s r i A n ca rs v w hr hn
theorem s_LoadValue_b {rs L : List Int} {v : Int} {m : Nat} (h : loadOk c wi s r i rs v = b) (hL : selL b (loadL wi r rs v) = L) (hm : L.length = m) (A : Option Addr) (n ca : Nat) (w : World) (hr : Rd w 1 A n (I rs)) (hn : n ≤ 1048576) :
    Calls Try.prog 20 #[trapV c wi s r i, .slice A n ca, .int .i64 v] w fun e w' => ∃ A' c', e = .returned (.tuple #[.slice A' m c', .bool b]) ∧ Own w' w.heap.size (ti A' m c' L) ∧ Below w.heap.size w w' := by
  subst h; subst hL; subst hm; exact s_LoadValue_any c wi s r i A n ca rs v w hr hn
theorem i_FaultTrap_b (h : trapB 1 0 s 0 i = b) (w : World) :
    Calls Try.prog 26 #[.int .i64 i, .bool s] w fun e w' => e = .returned (.tuple #[trapV (selI b 1) (selI b 0) (selB b s) (selI b 0) (selI b i), .bool b]) ∧ Below w.heap.size w w' := by subst h; exact i_FaultTrap_any i s w
theorem s_FaultTrap_b (h : trapB 1 0 s 0 i = b) (w : World) :
    Calls Try.prog 27 #[.int .i64 i, .bool s] w fun e w' => e = .returned (.tuple #[trapV (selI b 1) (selI b 0) (selB b s) (selI b 0) (selI b i), .bool b]) ∧ Below w.heap.size w w' := by subst h; exact s_FaultTrap_any i s w
theorem i_DeviceTrap_b (h : trapB 3 wi s r i = b) (w : World) :
    Calls Try.prog 30 #[.int .i64 i, .int .i64 wi, .int .i64 r, .bool s] w fun e w' => e = .returned (.tuple #[trapV (selI b 3) (selI b wi) (selB b s) (selI b r) (selI b i), .bool b]) ∧ Below w.heap.size w w' := by subst h; exact i_DeviceTrap_any i wi r s w
theorem s_DeviceTrap_b (h : trapB 3 wi s r i = b) (w : World) :
    Calls Try.prog 31 #[.int .i64 i, .int .i64 wi, .int .i64 r, .bool s] w fun e w' => e = .returned (.tuple #[trapV (selI b 3) (selI b wi) (selB b s) (selI b r) (selI b i), .bool b]) ∧ Below w.heap.size w w' := by subst h; exact s_DeviceTrap_any i wi r s w
theorem i_IsTrap_sel (h : trapB c wi s r i = true) (w : World) :
    Calls Try.prog 28 #[trapV (selI true c) (selI true wi) (selB true s) (selI true r) (selI true i)] w fun e w' => e = .returned (.bool true) ∧ Below w.heap.size w w' := i_IsTrap_eq h w
end
end Go.Proofs.Ytcdocgmikpccoaa
