/- Plain words on the assembly's text: its words, and what parsing them yields. Nothing of the program is called. No conditions. -/
import Derived.Test.YtlahpnihnpmgoaaDoorSp0
import Derived.Test.YtlahpnihnpmgoaaDoorPa
import Derived.Test.YtlahpnihnpmgoaaDoorAw
import Derived.Lib.Split
import Derived.Lib.IndexLaws
import Derived.Lib.IndexBytes
import Derived.Lib.IndexMore
import Derived.Lib.SlicesS
import Derived.Lib.Strings
namespace Go.Proofs.YtlahpnihnpmgoaaDoor
open Go.RowKit
set_option linter.unusedVariables false
set_option linter.unusedSimpArgs false

def pre1 (c : UInt8) : List (List UInt8) → List (List UInt8)
  | [] => [[c]]
  | h :: t => (c :: h) :: t
/-- the parts of a text between bytes, by recursion -/
def splitR (b : UInt8) : List UInt8 → List (List UInt8)
  | [] => [[]]
  | c :: l => if c = b then [] :: splitR b l else pre1 c (splitR b l)
theorem splitR_ne (b : UInt8) : ∀ l, ∃ h t, splitR b l = h :: t
  | [] => ⟨[], [], rfl⟩
  | c :: l => by
    rw [splitR]
    obtain ⟨h, t, e⟩ := splitR_ne b l
    split
    · exact ⟨_, _, rfl⟩
    · rw [e]; exact ⟨_, _, rfl⟩
def hdP (p : List UInt8) : List (List UInt8) → List (List UInt8)
  | [] => [p]
  | h :: t => (p ++ h) :: t
theorem spF_R (b : UInt8) : ∀ (l : List UInt8) (d : List (List UInt8)) (p : List UInt8), (l.foldl (spS b) (d, p)).1 ++ [(l.foldl (spS b) (d, p)).2] = d ++ hdP p (splitR b l)
  | [], d, p => by simp [splitR, hdP]
  | c :: l, d, p => by
    obtain ⟨h, t, e⟩ := splitR_ne b l
    rw [List.foldl_cons, spS, splitR]
    split
    · rw [spF_R b l, e]; simp [hdP]
    · rw [spF_R b l, e]; simp [hdP, pre1]
theorem splitL_R (b : UInt8) (l : List UInt8) : splitL b l = splitR b l := by
  have h := spF_R b l [] []
  obtain ⟨x, t, e⟩ := splitR_ne b l
  rw [e] at h ⊢
  simpa [splitL, spF, hdP] using h
/-- no byte b in it -/
def noB (b : UInt8) (l : List UInt8) : Prop := ∀ c ∈ l, ¬ c = b
theorem noB_cons {b c : UInt8} {l : List UInt8} : noB b (c :: l) ↔ ¬ c = b ∧ noB b l := by simp [noB]
theorem splitR_none {b : UInt8} : ∀ {u : List UInt8}, noB b u → splitR b u = [u]
  | [], _ => rfl
  | c :: u, h => by
    obtain ⟨h1, h2⟩ := noB_cons.1 h
    rw [splitR, if_neg h1, splitR_none h2]; rfl
theorem splitR_app {b : UInt8} (v : List UInt8) : ∀ {u : List UInt8}, noB b u → splitR b (u ++ b :: v) = u :: splitR b v
  | [], _ => by rw [List.nil_append, splitR, if_pos rfl]
  | c :: u, h => by
    obtain ⟨h1, h2⟩ := noB_cons.1 h
    rw [List.cons_append, splitR, if_neg h1, splitR_app v h2]; rfl
theorem splitR_words {nm : List UInt8} : ∀ {ws : List (List UInt8)}, noB 32 nm → (∀ u ∈ ws, noB 32 u) → splitR 32 (nm ++ ws.flatMap fun u => 32 :: u) = nm :: ws
  | [], h, _ => by rw [List.flatMap_nil, List.append_nil]; exact splitR_none h
  | u :: ws, h, hw => by
    rw [List.flatMap_cons, List.cons_append, splitR_app _ h, splitR_words (hw u (List.mem_cons_self ..)) fun x hx => hw x (List.mem_cons_of_mem _ hx)]
theorem splitR_len {b : UInt8} : ∀ {l u : List UInt8}, u ∈ splitR b l → u.length ≤ l.length
  | [], u, h => by
    rw [splitR, List.mem_singleton] at h; subst h; exact Nat.le_refl _
  | c :: l, u, h => by
    rw [splitR] at h
    split at h
    · rcases List.mem_cons.1 h with rfl | h
      · simp
      · have := splitR_len h; simp; omega
    · obtain ⟨x, t, e⟩ := splitR_ne b l
      rw [e, pre1] at h
      rcases List.mem_cons.1 h with rfl | h
      · have := splitR_len (b := b) (l := l) (u := x) (by rw [e]; exact List.mem_cons_self ..)
        simp; omega
      · have := splitR_len (b := b) (l := l) (u := u) (by rw [e]; exact List.mem_cons_of_mem _ h)
        simp; omega
theorem splitR_miss {b : UInt8} : ∀ {l : List UInt8}, Lib.indexByte l b = -1 → splitR b l = [l]
  | [], _ => rfl
  | c :: l, h => by
    by_cases hc : c = b
    · subst hc; simp [Lib.indexByte] at h
    · have h2 : Lib.indexByte l b = -1 := by
        have := Lib.indexByte_ge l b
        by_cases h3 : Lib.indexByte l b = -1
        · exact h3
        · simp [Lib.indexByte, hc, h3] at h; omega
      rw [splitR, if_neg hc, splitR_miss h2]; rfl
theorem splitR_hit {b : UInt8} : ∀ {l : List UInt8} {i : Nat}, Lib.indexByte l b = (i : Int) → splitR b l = l.take i :: splitR b (l.drop (i + 1))
  | [], i, h => by simp [Lib.indexByte] at h
  | c :: l, i, h => by
    by_cases hc : c = b
    · subst hc
      have : i = 0 := by simp [Lib.indexByte] at h; omega
      subst this
      rw [splitR, if_pos rfl]; rfl
    · have := Lib.indexByte_ge l b
      by_cases h3 : Lib.indexByte l b = -1
      · simp [Lib.indexByte, hc, h3] at h
      · have h4 : Lib.indexByte l b + 1 = (i : Int) := by simpa [Lib.indexByte, hc, h3] using h
        obtain ⟨j, rfl⟩ : ∃ j, i = j + 1 := ⟨i - 1, by omega⟩
        rw [splitR, if_neg hc, splitR_hit (i := j) (by omega)]; rfl
theorem splitK_R (b : UInt8) : ∀ (m : Nat) (l : List UInt8), l.length ≤ m → Lib.splitK [b] 0 (Lib.count l [b]) l = splitR b l
  | m, l, hm => by
    rcases Lib.index_spec l [b] with ⟨h, _⟩ | ⟨i, h, hi, ho, _⟩
    · rw [Lib.count_miss h, Lib.splitK]
      rw [Lib.index_one] at h
      rw [splitR_miss h]
    · have hr := Lib.index_room l [b] (by omega)
      have hl : i + 1 ≤ l.length := by rw [h] at hr; simp at hr; omega
      rw [Lib.count_hit (by simp) h, Nat.add_comm, Lib.splitK, if_neg (by rw [h]; simp), h]
      have e : ((i : Int)).toNat = i := by omega
      rw [e, Nat.add_zero]
      cases m with
      | zero => omega
      | succ m =>
        have e2 : (i + [b].length) = i + 1 := rfl
        rw [e2, splitK_R b m (l.drop (i + 1)) (by rw [List.length_drop]; omega)]
        rw [Lib.index_one] at h
        rw [splitR_hit h]
theorem splitB_R (l : List UInt8) (b : UInt8) : (Lib.splitB ⟨#[b]⟩ 0 (Lib.countB ⟨l.toArray⟩ ⟨#[b]⟩) ⟨l.toArray⟩).map Value.string = T (splitR b l) := by
  have h := Lib.splitB_data ⟨#[b]⟩ 0 (Lib.countB ⟨l.toArray⟩ ⟨#[b]⟩) ⟨l.toArray⟩
  have e : Lib.countB ⟨l.toArray⟩ ⟨#[b]⟩ = Lib.count l [b] := by
    show Lib.count _ _ = _
    simp
  rw [e] at h ⊢
  simp only [List.toList_toArray] at h
  rw [splitK_R b l.length l (Nat.le_refl _)] at h
  unfold T
  rw [← h, List.map_map]
  refine List.map_congr_left fun x hx => ?_
  show Value.string x = Value.string ⟨x.data.toList.toArray⟩
  rw [Array.toArray_toList]
theorem countB_R (l : List UInt8) (b : UInt8) : Lib.countB ⟨l.toArray⟩ ⟨#[b]⟩ + 1 = (splitR b l).length := by
  have h := congrArg List.length (splitB_R l b)
  rw [T_length, List.length_map] at h
  rw [← h]
  have : ∀ (k : Nat) (s : List UInt8), k = Lib.count s [b] → (Lib.splitK [b] 0 k s).length = k + 1 := by
    intro k
    induction k with
    | zero => intro s _; rfl
    | succ k ih =>
      intro s hk
      rcases Lib.index_spec s [b] with ⟨h, _⟩ | ⟨i, h, hi, ho, _⟩
      · rw [Lib.count_miss h] at hk; omega
      · rw [Lib.splitK, if_neg (by rw [h]; simp), List.length_cons, ih]
        have := Lib.count_hit (sub := [b]) (by simp) h
        have e : (Lib.index s [b]).toNat + [b].length = i + [b].length := by rw [h]; simp
        rw [e]; omega
  have e : Lib.countB ⟨l.toArray⟩ ⟨#[b]⟩ = Lib.count l [b] := by
    show Lib.count _ _ = _
    simp
  have h2 := congrArg List.length (Lib.splitB_data ⟨#[b]⟩ 0 (Lib.countB ⟨l.toArray⟩ ⟨#[b]⟩) ⟨l.toArray⟩)
  rw [List.length_map] at h2
  rw [h2, e]
  simp only [List.toList_toArray]
  exact (this _ _ rfl).symm

/-- the words behind the name -/
def asmW (o a b n : Int) : List (List UInt8) := (if uA o then [114 :: Lib.itoa a] else []) ++ ((if uB o then [114 :: Lib.itoa b] else []) ++ (if uZ o then [Lib.itoa n] else []))
theorem asmL_W (o a b n : Int) : asmL o a b n = opN[o.toNat]?.getD [] ++ (asmW o a b n).flatMap fun u => 32 :: u := by
  unfold asmL asmW
  cases uA o <;> cases uB o <;> cases uZ o <;> simp
theorem noB_itoa {n : Int} (h0 : 0 ≤ n) (h1 : n ≤ 65535) : noB 32 (Lib.itoa n) := by
  obtain ⟨k, rfl⟩ := Int.eq_ofNat_of_zero_le h0
  have e : Lib.itoa (k : Int) = Lib.decDigits k := by
    rw [Lib.itoa, if_neg (by omega)]; rfl
  rw [e]
  intro c hc
  have := (dec_body k (by omega)).2
  have h2 := digB_iff.1 (List.all_eq_true.1 this c hc)
  intro e
  subst e
  exact absurd h2.1 (by decide)
theorem noB_name {o : Int} (h0 : 0 ≤ o) (h1 : o ≤ 9) : noB 32 (opN[o.toNat]?.getD []) := by
  rcases op_cases h0 h1 with rfl | rfl | rfl | rfl | rfl | rfl | rfl | rfl | rfl | rfl <;> (unfold noB; decide)
theorem asm_split {o a b n : Int} (h : insB o a b n = true) : splitR 32 (asmL o a b n) = opN[o.toNat]?.getD [] :: asmW o a b n := by
  obtain ⟨⟨h0, h1⟩, ⟨h2, h3⟩, ⟨h4, h5⟩, h6, h7⟩ := insB_bd h
  rw [asmL_W]
  refine splitR_words (noB_name h0 h1) fun u hu => ?_
  have hr : ∀ {x : Int}, 0 ≤ x → x ≤ 3 → noB 32 (114 :: Lib.itoa x) := fun hx hy => noB_cons.2 ⟨by decide, noB_itoa hx (by omega)⟩
  unfold asmW at hu
  rcases List.mem_append.1 hu with hu | hu
  · split at hu
    · rw [List.mem_singleton.1 hu]; exact hr h2 h3
    · cases hu
  · rcases List.mem_append.1 hu with hu | hu
    · split at hu
      · rw [List.mem_singleton.1 hu]; exact hr h4 h5
      · cases hu
    · split at hu
      · rw [List.mem_singleton.1 hu]; exact noB_itoa h6 h7
      · cases hu
/-- a word without its r -/
def tkR (l : List UInt8) : List UInt8 := Lib.trimPrefix l [114]
theorem tkR_r (l : List UInt8) : tkR (114 :: l) = l := by simp [tkR, Lib.trimPrefix, Lib.hasPrefix]
/-- one field: taken from the numbers where it is used -/
def fld (u : Bool) (r : List Int) : Option (Int × List Int) := if u then (match r with | [] => none | x :: t => some (x, t)) else some (0, r)
/-- what parsing the words of an instruction's text yields -/
structure Parses (ws : List (List UInt8)) (o a b n : Int) : Prop where
  name : Lib.idxOfS (opN.map fun z => (⟨z.toArray⟩ : ByteArray)) ⟨(ws.headD []).toArray⟩ = o
  ok : ∀ u ∈ ws.tail, parB (tkR u) = true
  run : ∃ r1 r2, fld (uA o) (ws.tail.map fun u => parN (tkR u)) = some (a, r1) ∧ fld (uB o) r1 = some (b, r2) ∧ fld (uZ o) r2 = some (n, [])
theorem idx_name {o : Int} (h0 : 0 ≤ o) (h1 : o ≤ 9) : Lib.idxOfS (opN.map fun z => (⟨z.toArray⟩ : ByteArray)) ⟨(opN[o.toNat]?.getD []).toArray⟩ = o := by
  rcases op_cases h0 h1 with rfl | rfl | rfl | rfl | rfl | rfl | rfl | rfl | rfl | rfl <;> decide
theorem tkR_itoa {n : Int} (h0 : 0 ≤ n) (h1 : n ≤ 65535) : tkR (Lib.itoa n) = Lib.itoa n := by
  obtain ⟨k, rfl⟩ := Int.eq_ofNat_of_zero_le h0
  have e : Lib.itoa (k : Int) = Lib.decDigits k := by
    rw [Lib.itoa, if_neg (by omega)]; rfl
  rw [e]
  have hd := (dec_body k (by omega)).2
  cases hl : Lib.decDigits k with
  | nil => simp [tkR, Lib.trimPrefix, Lib.hasPrefix]
  | cons c r =>
    have h2 := digB_iff.1 (List.all_eq_true.1 hd c (by rw [hl]; exact List.mem_cons_self ..))
    have hc : ¬ (114 : UInt8) = c := by intro e; subst e; exact absurd h2.2 (by decide)
    simp [tkR, Lib.trimPrefix, Lib.hasPrefix, hc]
theorem ins_zero {o a b n : Int} (h : insB o a b n = true) : (uA o = false → a = 0) ∧ (uB o = false → b = 0) ∧ (uZ o = false → n = 0) := by
  unfold insB at h
  simp only [Bool.and_eq_true, inB_iff] at h
  obtain ⟨_, ha, hb, hn⟩ := h
  refine ⟨fun e => ?_, fun e => ?_, fun e => ?_⟩
  · rw [e] at ha; simp at ha; omega
  · rw [e] at hb; simp at hb; omega
  · rw [uN_zero o e] at hn; omega
theorem asm_parses {o a b n : Int} (h : insB o a b n = true) : Parses (splitR 32 (asmL o a b n)) o a b n := by
  obtain ⟨⟨h0, h1⟩, ⟨h2, h3⟩, ⟨h4, h5⟩, h6, h7⟩ := insB_bd h
  obtain ⟨za, zb, zn⟩ := ins_zero h
  have pa := par_itoa (n := a) (by omega) (by omega)
  have pb := par_itoa (n := b) (by omega) (by omega)
  have pn := par_itoa (n := n) (by omega) (by omega)
  have tn := tkR_itoa h6 h7
  rw [asm_split h]
  refine ⟨idx_name h0 h1, ?_, ?_⟩
  · rw [List.tail_cons]
    intro u hu
    unfold asmW at hu
    rcases List.mem_append.1 hu with hu | hu
    · split at hu
      · rw [List.mem_singleton.1 hu, tkR_r]; exact pa.1
      · cases hu
    · rcases List.mem_append.1 hu with hu | hu
      · split at hu
        · rw [List.mem_singleton.1 hu, tkR_r]; exact pb.1
        · cases hu
      · split at hu
        · rw [List.mem_singleton.1 hu, tn]; exact pn.1
        · cases hu
  · rw [List.tail_cons]
    unfold asmW fld
    revert za zb zn
    cases uA o <;> cases uB o <;> cases uZ o <;> intro za zb zn <;> simp_all [tkR_r]
theorem Parses.unique {ws : List (List UInt8)} {o a b n o' a' b' n' : Int} (h : Parses ws o a b n) (h' : Parses ws o' a' b' n') : o = o' ∧ a = a' ∧ b = b' ∧ n = n' := by
  obtain rfl : o = o' := h.name.symm.trans h'.name
  obtain ⟨r1, r2, e1, e2, e3⟩ := h.run
  obtain ⟨q1, q2, d1, d2, d3⟩ := h'.run
  rw [e1] at d1
  obtain ⟨rfl, rfl⟩ := Prod.mk.inj (Option.some.inj d1)
  rw [e2] at d2
  obtain ⟨rfl, rfl⟩ := Prod.mk.inj (Option.some.inj d2)
  rw [e3] at d3
  obtain ⟨rfl, _⟩ := Prod.mk.inj (Option.some.inj d3)
  exact ⟨rfl, rfl, rfl, rfl⟩
/-- no instruction has this text -/
def NoA (l : List UInt8) : Prop := ∀ o a b n, insB o a b n = true → ¬ asmL o a b n = l
/-- what ParseAssembly yields -/
def PA (l : List UInt8) (o a b n : Int) (ok : Bool) : Prop := if ok then insB o a b n = true ∧ asmL o a b n = l else (o = 0 ∧ a = 0 ∧ b = 0 ∧ n = 0) ∧ NoA l
theorem PA.unique {l : List UInt8} {o a b n o' a' b' n' : Int} {k k' : Bool} (h : PA l o a b n k) (h' : PA l o' a' b' n' k') : (o = o' ∧ a = a' ∧ b = b' ∧ n = n') ∧ k = k' := by
  cases k <;> cases k'
  · obtain ⟨⟨rfl, rfl, rfl, rfl⟩, _⟩ := h
    obtain ⟨⟨rfl, rfl, rfl, rfl⟩, _⟩ := h'
    exact ⟨⟨rfl, rfl, rfl, rfl⟩, rfl⟩
  · exact absurd h'.2 (h.2 _ _ _ _ h'.1)
  · exact absurd h.2 (h'.2 _ _ _ _ h.1)
  · have p := asm_parses h.1
    have p' := asm_parses h'.1
    rw [h.2] at p
    rw [h'.2] at p'
    exact ⟨p.unique p', rfl⟩
/-- as the reference reads the fields -/
def sreg (u : List UInt8) : Int := if u.length = 2 then parN (u.drop 1) else 0
def sfl (u : Bool) (f : List UInt8 → Int) (ws : List (List UInt8)) (k : Nat) : Int := if u && decide (k < ws.length) then f (ws.getD k []) else 0
def skp (u : Bool) (ws : List (List UInt8)) (k : Nat) : Nat := if u && decide (k < ws.length) then k + 1 else k
theorem sreg_itoa {x : Int} (h0 : 0 ≤ x) (h1 : x ≤ 3) : sreg (114 :: Lib.itoa x) = x := by
  obtain ⟨k, rfl⟩ := Int.eq_ofNat_of_zero_le h0
  have e : Lib.itoa (k : Int) = Lib.decDigits k := by
    rw [Lib.itoa, if_neg (by omega)]; rfl
  have h2 : (Lib.itoa (k : Int)).length = 1 := by
    rw [e, Lib.decDigits, dif_pos (by omega)]; rfl
  unfold sreg
  rw [if_pos (by rw [List.length_cons, h2]), List.drop_succ_cons, List.drop_zero]
  exact (par_itoa (by omega) (by omega)).2
theorem asm_spec {o a b n : Int} (h : insB o a b n = true) {ws : List (List UInt8)} (hw : splitR 32 (asmL o a b n) = ws) :
    ws.headD [] = opN[o.toNat]?.getD [] ∧ sfl (uA o) sreg ws 1 = a ∧ sfl (uB o) sreg ws (skp (uA o) ws 1) = b ∧ sfl (uZ o) parN ws (skp (uB o) ws (skp (uA o) ws 1)) = n := by
  obtain ⟨⟨h0, h1⟩, ⟨h2, h3⟩, ⟨h4, h5⟩, h6, h7⟩ := insB_bd h
  obtain ⟨za, zb, zn⟩ := ins_zero h
  have pa := sreg_itoa h2 h3
  have pb := sreg_itoa h4 h5
  have pn := (par_itoa (n := n) (by omega) (by omega)).2
  rw [asm_split h] at hw
  subst hw
  refine ⟨rfl, ?_, ?_, ?_⟩ <;>
    (unfold asmW sfl; (try unfold skp); revert za zb zn; cases uA o <;> cases uB o <;> cases uZ o <;> intro za zb zn <;> simp_all)
theorem asm_len {o a b n : Int} (h : insB o a b n = true) : (asmL o a b n).length ≤ 20 := by
  obtain ⟨⟨h0, h1⟩, ⟨h2, h3⟩, ⟨h4, h5⟩, h6, h7⟩ := insB_bd h
  have hl : ∀ {x : Int} {m : Nat}, 0 ≤ x → x < (10 ^ (m + 1) : Nat) → (Lib.itoa x).length ≤ m + 1 := by
    intro x m hx hy
    obtain ⟨k, rfl⟩ := Int.eq_ofNat_of_zero_le hx
    have e : Lib.itoa (k : Int) = Lib.decDigits k := by
      rw [Lib.itoa, if_neg (by omega)]; rfl
    rw [e]
    exact dec_lt_len m k (by omega)
  have la := hl (m := 0) h2 (by show a < (10 : Nat); omega)
  have lb := hl (m := 0) h4 (by show b < (10 : Nat); omega)
  have ln := hl (m := 4) h6 (by show n < (100000 : Nat); omega)
  rw [asmL_W]
  have hn : (opN[o.toNat]?.getD []).length ≤ 8 := by
    rcases op_cases h0 h1 with rfl | rfl | rfl | rfl | rfl | rfl | rfl | rfl | rfl | rfl <;> decide
  have hw : ((asmW o a b n).flatMap fun u => 32 :: u).length ≤ 12 := by
    unfold asmW
    cases uA o <;> cases uB o <;> cases uZ o <;> simp <;> omega
  rw [List.length_append]; omega
end Go.Proofs.YtlahpnihnpmgoaaDoor
