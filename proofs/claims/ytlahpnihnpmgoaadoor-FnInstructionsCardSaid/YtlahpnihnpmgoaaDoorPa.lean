/- What ParseInt computes, in plain Lean: a text reads as a number of at most six digits when it is that number's decimal text. No model in this text but the numerals of the library. -/
import Derived.Test.YtlahpnihnpmgoaaDoorFm
import Derived.Lib.Atoi
namespace Go.Proofs.YtlahpnihnpmgoaaDoor
set_option linter.unusedVariables false
set_option linter.unusedSimpArgs false

/-- a decimal digit -/
def digB (c : UInt8) : Bool := decide (48 ≤ c.toNat) && decide (c.toNat ≤ 57)
def numS (n : Int) (c : UInt8) : Int := 10 * n + ((c.toNat : Int) - 48)
def numL (l : List UInt8) : Int := l.foldl numS 0
theorem numL_snoc (l : List UInt8) (c : UInt8) : numL (l ++ [c]) = numS (numL l) c := by simp [numL]
def sgI (b : Bool) (n : Int) : Int := if b then -n else n
/-- whether the body b is read as a number whose text is l -/
def rdB (g : Bool) (b l : List UInt8) : Bool := inB (b.length : Int) 1 6 && (b.all digB && decide (Lib.itoa (sgI g (numL b)) = l))
/-- a sign stands ahead -/
def negB : List UInt8 → Bool
  | c :: _ :: _ => decide (c = 45)
  | _ => false
def bodL (l : List UInt8) : List UInt8 := if negB l then l.drop 1 else l
def parB (l : List UInt8) : Bool := rdB (negB l) (bodL l) l
def parN (l : List UInt8) : Int := selI (parB l) (sgI (negB l) (numL (bodL l)))

theorem digB_iff {c : UInt8} : digB c = true ↔ 48 ≤ c.toNat ∧ c.toNat ≤ 57 := by simp [digB]
theorem dec_num : ∀ (l : List UInt8) (acc : Nat), l.all digB = true → ∃ m : Nat, Lib.decFrom acc l = some m ∧ l.foldl numS (acc : Int) = (m : Int)
  | [], acc, _ => ⟨acc, rfl, rfl⟩
  | c :: r, acc, h => by
    simp only [List.all_cons, Bool.and_eq_true] at h
    obtain ⟨h1, h2⟩ := digB_iff.1 h.1
    obtain ⟨m, hm, he⟩ := dec_num r (acc * 10 + (c.toNat - 48)) h.2
    have hd : Lib.digitVal c = some (c.toNat - 48) := by unfold Lib.digitVal; rw [if_pos ⟨h1, h2⟩]
    refine ⟨m, ?_, ?_⟩
    · simp only [Lib.decFrom, hd]; exact hm
    · rw [List.foldl_cons, ← he]
      congr 1
      unfold numS
      omega
theorem dec_all : ∀ (l : List UInt8) (acc m : Nat), Lib.decFrom acc l = some m → l.all digB = true
  | [], _, _, _ => rfl
  | c :: r, acc, m, h => by
    simp only [Lib.decFrom] at h
    cases hc : Lib.digitVal c with
    | none => rw [hc] at h; cases h
    | some d =>
      rw [hc] at h
      have h1 := Lib.digitVal_eq hc
      simp only [List.all_cons, Bool.and_eq_true]
      exact ⟨digB_iff.2 ⟨h1.1, h1.2.1⟩, dec_all r _ m h⟩
theorem numL_bd {l : List UInt8} {k : Nat} (h : l.all digB = true) (hk : l.length ≤ k) : 0 ≤ numL l ∧ numL l < (10 ^ k : Nat) := by
  obtain ⟨m, hm, he⟩ := dec_num l 0 h
  have h1 := Lib.decFrom_lt l 0 m hm
  have h2 := Nat.pow_le_pow_right (n := 10) (by decide) hk
  have e : numL l = (m : Int) := he
  rw [e]
  omega
theorem dgS_val {d : Nat} (h : d < 10) : Lib.digitVal (dgS d) = some d := by
  obtain rfl | rfl | rfl | rfl | rfl | rfl | rfl | rfl | rfl | rfl : d = 0 ∨ d = 1 ∨ d = 2 ∨ d = 3 ∨ d = 4 ∨ d = 5 ∨ d = 6 ∨ d = 7 ∨ d = 8 ∨ d = 9 := by omega
  all_goals rfl
theorem dec_dec (k : Nat) : Lib.decFrom 0 (Lib.decDigits k) = some k := by
  induction k using Nat.strongRecOn with
  | _ k ih =>
    by_cases h : k < 10
    · rw [dec_small h]
      show Lib.decFrom 0 [dgS k] = some k
      simp only [Lib.decFrom, dgS_val h]
      simp
    · rw [dec_big h]
      show Lib.decFrom 0 (Lib.decDigits (k / 10) ++ [dgS (k % 10)]) = some k
      have h1 := ih (k / 10) (by omega)
      have h2 := Lib.decFrom_take (Lib.decDigits (k / 10) ++ [dgS (k % 10)]) (Lib.decDigits (k / 10)).length 0 (k / 10) (dgS (k % 10)) (k % 10) (by simpa using h1) (by simp) (dgS_val (by omega))
      rw [List.take_of_length_le (by simp)] at h2
      rw [h2]
      exact congrArg some (by omega)
theorem dec_lt_len (m : Nat) : ∀ k, k < 10 ^ (m + 1) → (Lib.decDigits k).length ≤ m + 1 := by
  induction m with
  | zero => intro k h; rw [dec_small (by simpa using h)]; simp
  | succ m ih =>
    intro k h
    by_cases h1 : k < 10
    · rw [dec_small h1]; simp
    · rw [dec_big h1, List.length_append]
      have := ih (k / 10) (by rw [Nat.pow_succ] at h; omega)
      simp; omega
theorem dec_pos (k : Nat) : 1 ≤ (Lib.decDigits k).length := by
  by_cases h : k < 10
  · rw [dec_small h]; simp
  · rw [dec_big h]; simp
theorem dec_numL (k : Nat) : numL (Lib.decDigits k) = (k : Int) := by
  obtain ⟨m, hm, he⟩ := dec_num (Lib.decDigits k) 0 (dec_all _ _ _ (dec_dec k))
  rw [dec_dec] at hm
  have := Option.some.inj hm
  subst this
  exact he
theorem dec_body (k : Nat) (h : k ≤ 999999) : inB ((Lib.decDigits k).length : Int) 1 6 = true ∧ (Lib.decDigits k).all digB = true :=
  ⟨inB_iff.2 (by have := dec_pos k; have := dec_lt_len 5 k (by omega); omega), dec_all _ _ _ (dec_dec k)⟩
/-- whatever is a number's text reads as that number -/
theorem par_itoa {n : Int} (h0 : -999999 ≤ n) (h1 : n ≤ 999999) : parB (Lib.itoa n) = true ∧ parN (Lib.itoa n) = n := by
  have key : ∀ (g : Bool) (k : Nat), k ≤ 999999 → Lib.itoa n = (if g then 45 :: Lib.decDigits k else Lib.decDigits k) → n = sgI g (k : Int) → negB (Lib.itoa n) = g → parB (Lib.itoa n) = true ∧ parN (Lib.itoa n) = n := by
    intro g k hk he hn hg
    have hb : bodL (Lib.itoa n) = Lib.decDigits k := by
      unfold bodL
      rw [hg, he]
      cases g <;> simp
    have hp : parB (Lib.itoa n) = true := by
      unfold parB rdB
      rw [hb, hg, dec_numL, ← hn, (dec_body k hk).1, (dec_body k hk).2]
      simp
    refine ⟨hp, ?_⟩
    unfold parN
    rw [hp, hb, hg, dec_numL, ← hn]
    rfl
  by_cases hn : n < 0
  · have e : Lib.itoa n = 45 :: Lib.decDigits n.natAbs := by rw [Lib.itoa, if_pos hn]
    refine key true n.natAbs (by omega) (by rw [e]; rfl) (by unfold sgI; simp; omega) ?_
    rw [e]
    have := dec_pos n.natAbs
    cases hd : Lib.decDigits n.natAbs with
    | nil => rw [hd] at this; simp at this
    | cons a r => rfl
  · have e : Lib.itoa n = Lib.decDigits n.natAbs := by rw [Lib.itoa, if_neg hn]; exact congrArg Lib.decDigits (by omega)
    refine key false n.natAbs (by omega) (by rw [e]; rfl) (by unfold sgI; simp; omega) ?_
    rw [e]
    have ha := dec_all _ _ _ (dec_dec n.natAbs)
    cases hd : Lib.decDigits n.natAbs with
    | nil => rfl
    | cons a r =>
      rw [hd] at ha
      cases r with
      | nil => rfl
      | cons b r =>
        simp only [List.all_cons, Bool.and_eq_true] at ha
        have h48 := (digB_iff.1 ha.1).1
        show decide (a = 45) = false
        refine decide_eq_false ?_
        rintro rfl
        exact absurd h48 (by decide)
theorem par_true {l : List UInt8} (h : parB l = true) : Lib.itoa (parN l) = l ∧ -999999 ≤ parN l ∧ parN l ≤ 999999 ∧ l.length ≤ 7 := by
  have e : parN l = sgI (negB l) (numL (bodL l)) := by unfold parN; rw [h]; rfl
  unfold parB rdB at h
  simp only [Bool.and_eq_true, decide_eq_true_eq] at h
  obtain ⟨hi, ha, ht⟩ := h
  have hi := inB_iff.1 hi
  have hb := numL_bd (k := 6) ha (by omega)
  rw [e]
  have hl : l.length ≤ (bodL l).length + 1 := by unfold bodL; split <;> simp <;> omega
  refine ⟨ht, ?_, ?_, by omega⟩
  all_goals (unfold sgI; cases negB l <;> simp <;> omega)
theorem atoi_itoa (n : Int) : Lib.atoi (Lib.itoa n) = some n := by
  have hd : ∀ k, Lib.decNat (Lib.decDigits k) = some k := fun k => by
    unfold Lib.decNat
    have := dec_pos k
    cases h : Lib.decDigits k with
    | nil => rw [h] at this; simp at this
    | cons a r => rw [← h, dec_dec]; simp [h]
  by_cases hn : n < 0
  · have e : Lib.itoa n = 45 :: Lib.decDigits n.natAbs := by rw [Lib.itoa, if_pos hn]
    rw [e]
    simp only [Lib.atoi, beq_self_eq_true, if_true, hd, Option.map_some]
    exact congrArg some (by omega)
  · have e : Lib.itoa n = Lib.decDigits n.natAbs := by rw [Lib.itoa, if_neg hn]; exact congrArg Lib.decDigits (by omega)
    rw [e]
    have ha := dec_all _ _ _ (dec_dec n.natAbs)
    have h1 := hd n.natAbs
    cases h : Lib.decDigits n.natAbs with
    | nil => have := dec_pos n.natAbs; rw [h] at this; simp at this
    | cons a r =>
      rw [h] at ha h1
      simp only [List.all_cons, Bool.and_eq_true] at ha
      have h48 := (digB_iff.1 ha.1).1
      have n45 : (a == 45) = false := by refine beq_eq_false_iff_ne.2 ?_; rintro rfl; exact absurd h48 (by decide)
      have n43 : (a == 43) = false := by refine beq_eq_false_iff_ne.2 ?_; rintro rfl; exact absurd h48 (by decide)
      simp only [Lib.atoi, n45, n43, h1, Option.map_some, Bool.false_eq_true, if_false]
      exact congrArg some (by omega)
theorem par_none {l : List UInt8} (h : Lib.atoi l = none) : parB l = false := by
  cases hp : parB l with
  | false => rfl
  | true =>
    have h1 := atoi_itoa (parN l)
    rw [(par_true hp).1, h] at h1
    cases h1
theorem par_some {l : List UInt8} {n : Int} (h : Lib.atoi l = some n) (h0 : inB n (-999999) 999999 = true) (h1 : Lib.itoa n = l) : parB l = true ∧ parN l = n := by
  have hb := inB_iff.1 h0
  have := par_itoa hb.1 hb.2
  rwa [h1] at this
theorem par_not {l : List UInt8} {n : Int} (h : Lib.atoi l = some n) (h0 : inB n (-999999) 999999 = false ∨ Lib.itoa n ≠ l) : parB l = false := by
  cases hp : parB l with
  | false => rfl
  | true =>
    have ht := par_true hp
    have h1 := atoi_itoa (parN l)
    rw [ht.1, h] at h1
    have e := Option.some.inj h1
    rcases h0 with h0 | h0
    · have : inB n (-999999) 999999 = true := inB_iff.2 (by rw [e]; exact ⟨ht.2.1, ht.2.2.1⟩)
      rw [this] at h0; cases h0
    · exact absurd (by rw [e]; exact ht.1) h0
theorem par_long {l : List UInt8} (h : 7 < l.length) : parB l = false := by
  cases hp : parB l with
  | false => rfl
  | true => have := (par_true hp).2.2.2; omega
theorem parN_false {l : List UInt8} (h : parB l = false) : parN l = 0 := by unfold parN; rw [h]; rfl
end Go.Proofs.YtlahpnihnpmgoaaDoor
