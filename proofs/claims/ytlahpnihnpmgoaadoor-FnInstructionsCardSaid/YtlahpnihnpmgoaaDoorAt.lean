/- Contracts of assemblyText and l3Text: the text of a valid instruction. The tables read as they were laid. -/
import Derived.Test.YtlahpnihnpmgoaaDoorOn
import Derived.Test.YtlahpnihnpmgoaaDoorGa
import Derived.Deep.RegionWith
import Derived.Deep.CutRange
namespace Go.Proofs.YtlahpnihnpmgoaaDoor
open Go.RowKit
set_option linter.unusedVariables false
set_option linter.unusedSimpArgs false

/-- the assembly text of an instruction -/
def asmL (o a b n : Int) : List UInt8 := opN[o.toNat]?.getD [] ++ ((if uA o then 32 :: 114 :: Lib.itoa a else []) ++ ((if uB o then 32 :: 114 :: Lib.itoa b else []) ++ (if uZ o then 32 :: Lib.itoa n else [])))
theorem itoa_len {n : Int} (h0 : 0 ≤ n) (h1 : n ≤ 65535) : (Lib.itoa n).length ≤ 65536 := by
  obtain ⟨k, rfl⟩ := Int.eq_ofNat_of_zero_le h0
  have e : Lib.itoa (k : Int) = Lib.decDigits k := by
    rw [Lib.itoa, if_neg (by omega)]; rfl
  rw [e]
  have := dec_len k
  omega
theorem ret_str {a b : ByteArray} (h : a = b) : Ending.returned (.string a) = .returned (.string b) := by rw [h]

set_option maxHeartbeats 2000000 in
theorem i_assemblyText_0 (a b n : Int) (w : World) (ht : Tab w) (hN : Nms w) (ha0 : 0 ≤ a) (ha1 : a ≤ 3) (hb0 : 0 ≤ b) (hb1 : b ≤ 3) (hn0 : 0 ≤ n) (hn1 : n ≤ 65535) :
    Calls Tryd.prog 23 #[insV 0 a b n] w fun e w' => e = .returned (.string ⟨(asmL 0 a b n).toArray⟩) ∧ Below w.heap.size w w' := by
  have HB0 := Lib.hid (below_alloc w (.cells #[.int .i64 0, .int .i64 a, .int .i64 b, .int .i64 n] 26))
  have HX0 := Lib.hid (Box.new w 26 #[.int .i64 0, .int .i64 a, .int .i64 b, .int .i64 n])
  have HT0 := Lib.hid (ht.keep HB0.out)
  have cN := (hN.keep HB0.out).cell 0 _ rfl
  have hu : ∀ w, Calls Tryd.prog 31 #[.int .i64 0] w fun e w' => e = .returned (.tuple #[.int .i64 (-1), .int .i64 (-1), .int .i64 (-1)]) ∧ w = w' := fun w => uses_any 0 w
  have HU := Lib.hid hu
  clear hu ht hN
  have C0 := HX0.out.cell
  go_enter Tryd.func23, Tryd.ntmps23
  go_wp2_with fail
  refine (HU.out _).mono ?_
  rintro e w1 ⟨rfl, rfl⟩
  go_wp2
  go_ret
  refine ⟨ret_str ?_, HB0.out⟩
  unfold asmL
  apply ByteArray.ext
  simp [uA, uB, uZ, opN, ByteArray.data_append]

set_option maxHeartbeats 2000000 in
theorem i_assemblyText_1 (a b n : Int) (w : World) (ht : Tab w) (hN : Nms w) (ha0 : 0 ≤ a) (ha1 : a ≤ 3) (hb0 : 0 ≤ b) (hb1 : b ≤ 3) (hn0 : 0 ≤ n) (hn1 : n ≤ 65535) :
    Calls Tryd.prog 23 #[insV 1 a b n] w fun e w' => e = .returned (.string ⟨(asmL 1 a b n).toArray⟩) ∧ Below w.heap.size w w' := by
  have HB0 := Lib.hid (below_alloc w (.cells #[.int .i64 1, .int .i64 a, .int .i64 b, .int .i64 n] 26))
  have HX0 := Lib.hid (Box.new w 26 #[.int .i64 1, .int .i64 a, .int .i64 b, .int .i64 n])
  have HT0 := Lib.hid (ht.keep HB0.out)
  have cN := (hN.keep HB0.out).cell 1 _ rfl
  have hu : ∀ w, Calls Tryd.prog 31 #[.int .i64 1] w fun e w' => e = .returned (.tuple #[.int .i64 3, .int .i64 (-1), .int .i64 65535]) ∧ w = w' := fun w => uses_any 1 w
  have HU := Lib.hid hu
  clear hu ht hN
  have C0 := HX0.out.cell
  go_enter Tryd.func23, Tryd.ntmps23
  go_wp2_with fail
  refine (HU.out _).mono ?_
  rintro e w1 ⟨rfl, rfl⟩
  obtain ⟨la, hla⟩ : ∃ l, l = Lib.itoa a := ⟨_, rfl⟩
  have hza : la.length ≤ 65536 := by rw [hla]; exact itoa_len (by omega) (by omega)
  have HLa := Lib.hid hla
  clear hla
  go_wp2_with fail
  refine (itoa_any a _ (by omega) (by omega) HT0.out).mono ?_
  rintro e w2 ⟨rfl, hb1_⟩
  rw [← HLa.out]
  have HB1 := Lib.hid (below_next HB0.out hb1_)
  have HX1 := Lib.hid (HX0.out.keep hb1_)
  have HT1 := Lib.hid (HT0.out.keep hb1_)
  clear hb1_ C0
  have C0 := HX1.out.cell
  obtain ⟨ln, hln⟩ : ∃ l, l = Lib.itoa n := ⟨_, rfl⟩
  have hzn : ln.length ≤ 65536 := by rw [hln]; exact itoa_len (by omega) (by omega)
  have HLn := Lib.hid hln
  clear hln
  go_wp2_with fail
  refine (itoa_any n _ (by omega) (by omega) HT1.out).mono ?_
  rintro e w3 ⟨rfl, hb2_⟩
  rw [← HLn.out]
  have HB2 := Lib.hid (below_next HB1.out hb2_)
  have HX2 := Lib.hid (HX1.out.keep hb2_)
  have HT2 := Lib.hid (HT1.out.keep hb2_)
  clear hb2_ C0
  have C0 := HX2.out.cell
  go_wp2
  go_ret
  refine ⟨ret_str ?_, HB2.out⟩
  unfold asmL
  rw [← HLa.out]
  rw [← HLn.out]
  apply ByteArray.ext
  simp [uA, uB, uZ, opN, ByteArray.data_append]

set_option maxHeartbeats 2000000 in
theorem i_assemblyText_2 (a b n : Int) (w : World) (ht : Tab w) (hN : Nms w) (ha0 : 0 ≤ a) (ha1 : a ≤ 3) (hb0 : 0 ≤ b) (hb1 : b ≤ 3) (hn0 : 0 ≤ n) (hn1 : n ≤ 65535) :
    Calls Tryd.prog 23 #[insV 2 a b n] w fun e w' => e = .returned (.string ⟨(asmL 2 a b n).toArray⟩) ∧ Below w.heap.size w w' := by
  have HB0 := Lib.hid (below_alloc w (.cells #[.int .i64 2, .int .i64 a, .int .i64 b, .int .i64 n] 26))
  have HX0 := Lib.hid (Box.new w 26 #[.int .i64 2, .int .i64 a, .int .i64 b, .int .i64 n])
  have HT0 := Lib.hid (ht.keep HB0.out)
  have cN := (hN.keep HB0.out).cell 2 _ rfl
  have hu : ∀ w, Calls Tryd.prog 31 #[.int .i64 2] w fun e w' => e = .returned (.tuple #[.int .i64 3, .int .i64 3, .int .i64 (-1)]) ∧ w = w' := fun w => uses_any 2 w
  have HU := Lib.hid hu
  clear hu ht hN
  have C0 := HX0.out.cell
  go_enter Tryd.func23, Tryd.ntmps23
  go_wp2_with fail
  refine (HU.out _).mono ?_
  rintro e w1 ⟨rfl, rfl⟩
  obtain ⟨la, hla⟩ : ∃ l, l = Lib.itoa a := ⟨_, rfl⟩
  have hza : la.length ≤ 65536 := by rw [hla]; exact itoa_len (by omega) (by omega)
  have HLa := Lib.hid hla
  clear hla
  go_wp2_with fail
  refine (itoa_any a _ (by omega) (by omega) HT0.out).mono ?_
  rintro e w2 ⟨rfl, hb1_⟩
  rw [← HLa.out]
  have HB1 := Lib.hid (below_next HB0.out hb1_)
  have HX1 := Lib.hid (HX0.out.keep hb1_)
  have HT1 := Lib.hid (HT0.out.keep hb1_)
  clear hb1_ C0
  have C0 := HX1.out.cell
  obtain ⟨lb, hlb⟩ : ∃ l, l = Lib.itoa b := ⟨_, rfl⟩
  have hzb : lb.length ≤ 65536 := by rw [hlb]; exact itoa_len (by omega) (by omega)
  have HLb := Lib.hid hlb
  clear hlb
  go_wp2_with fail
  refine (itoa_any b _ (by omega) (by omega) HT1.out).mono ?_
  rintro e w3 ⟨rfl, hb2_⟩
  rw [← HLb.out]
  have HB2 := Lib.hid (below_next HB1.out hb2_)
  have HX2 := Lib.hid (HX1.out.keep hb2_)
  have HT2 := Lib.hid (HT1.out.keep hb2_)
  clear hb2_ C0
  have C0 := HX2.out.cell
  go_wp2
  go_ret
  refine ⟨ret_str ?_, HB2.out⟩
  unfold asmL
  rw [← HLa.out]
  rw [← HLb.out]
  apply ByteArray.ext
  simp [uA, uB, uZ, opN, ByteArray.data_append]

set_option maxHeartbeats 2000000 in
theorem i_assemblyText_3 (a b n : Int) (w : World) (ht : Tab w) (hN : Nms w) (ha0 : 0 ≤ a) (ha1 : a ≤ 3) (hb0 : 0 ≤ b) (hb1 : b ≤ 3) (hn0 : 0 ≤ n) (hn1 : n ≤ 65535) :
    Calls Tryd.prog 23 #[insV 3 a b n] w fun e w' => e = .returned (.string ⟨(asmL 3 a b n).toArray⟩) ∧ Below w.heap.size w w' := by
  have HB0 := Lib.hid (below_alloc w (.cells #[.int .i64 3, .int .i64 a, .int .i64 b, .int .i64 n] 26))
  have HX0 := Lib.hid (Box.new w 26 #[.int .i64 3, .int .i64 a, .int .i64 b, .int .i64 n])
  have HT0 := Lib.hid (ht.keep HB0.out)
  have cN := (hN.keep HB0.out).cell 3 _ rfl
  have hu : ∀ w, Calls Tryd.prog 31 #[.int .i64 3] w fun e w' => e = .returned (.tuple #[.int .i64 3, .int .i64 3, .int .i64 (-1)]) ∧ w = w' := fun w => uses_any 3 w
  have HU := Lib.hid hu
  clear hu ht hN
  have C0 := HX0.out.cell
  go_enter Tryd.func23, Tryd.ntmps23
  go_wp2_with fail
  refine (HU.out _).mono ?_
  rintro e w1 ⟨rfl, rfl⟩
  obtain ⟨la, hla⟩ : ∃ l, l = Lib.itoa a := ⟨_, rfl⟩
  have hza : la.length ≤ 65536 := by rw [hla]; exact itoa_len (by omega) (by omega)
  have HLa := Lib.hid hla
  clear hla
  go_wp2_with fail
  refine (itoa_any a _ (by omega) (by omega) HT0.out).mono ?_
  rintro e w2 ⟨rfl, hb1_⟩
  rw [← HLa.out]
  have HB1 := Lib.hid (below_next HB0.out hb1_)
  have HX1 := Lib.hid (HX0.out.keep hb1_)
  have HT1 := Lib.hid (HT0.out.keep hb1_)
  clear hb1_ C0
  have C0 := HX1.out.cell
  obtain ⟨lb, hlb⟩ : ∃ l, l = Lib.itoa b := ⟨_, rfl⟩
  have hzb : lb.length ≤ 65536 := by rw [hlb]; exact itoa_len (by omega) (by omega)
  have HLb := Lib.hid hlb
  clear hlb
  go_wp2_with fail
  refine (itoa_any b _ (by omega) (by omega) HT1.out).mono ?_
  rintro e w3 ⟨rfl, hb2_⟩
  rw [← HLb.out]
  have HB2 := Lib.hid (below_next HB1.out hb2_)
  have HX2 := Lib.hid (HX1.out.keep hb2_)
  have HT2 := Lib.hid (HT1.out.keep hb2_)
  clear hb2_ C0
  have C0 := HX2.out.cell
  go_wp2
  go_ret
  refine ⟨ret_str ?_, HB2.out⟩
  unfold asmL
  rw [← HLa.out]
  rw [← HLb.out]
  apply ByteArray.ext
  simp [uA, uB, uZ, opN, ByteArray.data_append]

set_option maxHeartbeats 2000000 in
theorem i_assemblyText_4 (a b n : Int) (w : World) (ht : Tab w) (hN : Nms w) (ha0 : 0 ≤ a) (ha1 : a ≤ 3) (hb0 : 0 ≤ b) (hb1 : b ≤ 3) (hn0 : 0 ≤ n) (hn1 : n ≤ 65535) :
    Calls Tryd.prog 23 #[insV 4 a b n] w fun e w' => e = .returned (.string ⟨(asmL 4 a b n).toArray⟩) ∧ Below w.heap.size w w' := by
  have HB0 := Lib.hid (below_alloc w (.cells #[.int .i64 4, .int .i64 a, .int .i64 b, .int .i64 n] 26))
  have HX0 := Lib.hid (Box.new w 26 #[.int .i64 4, .int .i64 a, .int .i64 b, .int .i64 n])
  have HT0 := Lib.hid (ht.keep HB0.out)
  have cN := (hN.keep HB0.out).cell 4 _ rfl
  have hu : ∀ w, Calls Tryd.prog 31 #[.int .i64 4] w fun e w' => e = .returned (.tuple #[.int .i64 3, .int .i64 3, .int .i64 (-1)]) ∧ w = w' := fun w => uses_any 4 w
  have HU := Lib.hid hu
  clear hu ht hN
  have C0 := HX0.out.cell
  go_enter Tryd.func23, Tryd.ntmps23
  go_wp2_with fail
  refine (HU.out _).mono ?_
  rintro e w1 ⟨rfl, rfl⟩
  obtain ⟨la, hla⟩ : ∃ l, l = Lib.itoa a := ⟨_, rfl⟩
  have hza : la.length ≤ 65536 := by rw [hla]; exact itoa_len (by omega) (by omega)
  have HLa := Lib.hid hla
  clear hla
  go_wp2_with fail
  refine (itoa_any a _ (by omega) (by omega) HT0.out).mono ?_
  rintro e w2 ⟨rfl, hb1_⟩
  rw [← HLa.out]
  have HB1 := Lib.hid (below_next HB0.out hb1_)
  have HX1 := Lib.hid (HX0.out.keep hb1_)
  have HT1 := Lib.hid (HT0.out.keep hb1_)
  clear hb1_ C0
  have C0 := HX1.out.cell
  obtain ⟨lb, hlb⟩ : ∃ l, l = Lib.itoa b := ⟨_, rfl⟩
  have hzb : lb.length ≤ 65536 := by rw [hlb]; exact itoa_len (by omega) (by omega)
  have HLb := Lib.hid hlb
  clear hlb
  go_wp2_with fail
  refine (itoa_any b _ (by omega) (by omega) HT1.out).mono ?_
  rintro e w3 ⟨rfl, hb2_⟩
  rw [← HLb.out]
  have HB2 := Lib.hid (below_next HB1.out hb2_)
  have HX2 := Lib.hid (HX1.out.keep hb2_)
  have HT2 := Lib.hid (HT1.out.keep hb2_)
  clear hb2_ C0
  have C0 := HX2.out.cell
  go_wp2
  go_ret
  refine ⟨ret_str ?_, HB2.out⟩
  unfold asmL
  rw [← HLa.out]
  rw [← HLb.out]
  apply ByteArray.ext
  simp [uA, uB, uZ, opN, ByteArray.data_append]

set_option maxHeartbeats 2000000 in
theorem i_assemblyText_5 (a b n : Int) (w : World) (ht : Tab w) (hN : Nms w) (ha0 : 0 ≤ a) (ha1 : a ≤ 3) (hb0 : 0 ≤ b) (hb1 : b ≤ 3) (hn0 : 0 ≤ n) (hn1 : n ≤ 65535) :
    Calls Tryd.prog 23 #[insV 5 a b n] w fun e w' => e = .returned (.string ⟨(asmL 5 a b n).toArray⟩) ∧ Below w.heap.size w w' := by
  have HB0 := Lib.hid (below_alloc w (.cells #[.int .i64 5, .int .i64 a, .int .i64 b, .int .i64 n] 26))
  have HX0 := Lib.hid (Box.new w 26 #[.int .i64 5, .int .i64 a, .int .i64 b, .int .i64 n])
  have HT0 := Lib.hid (ht.keep HB0.out)
  have cN := (hN.keep HB0.out).cell 5 _ rfl
  have hu : ∀ w, Calls Tryd.prog 31 #[.int .i64 5] w fun e w' => e = .returned (.tuple #[.int .i64 3, .int .i64 3, .int .i64 (-1)]) ∧ w = w' := fun w => uses_any 5 w
  have HU := Lib.hid hu
  clear hu ht hN
  have C0 := HX0.out.cell
  go_enter Tryd.func23, Tryd.ntmps23
  go_wp2_with fail
  refine (HU.out _).mono ?_
  rintro e w1 ⟨rfl, rfl⟩
  obtain ⟨la, hla⟩ : ∃ l, l = Lib.itoa a := ⟨_, rfl⟩
  have hza : la.length ≤ 65536 := by rw [hla]; exact itoa_len (by omega) (by omega)
  have HLa := Lib.hid hla
  clear hla
  go_wp2_with fail
  refine (itoa_any a _ (by omega) (by omega) HT0.out).mono ?_
  rintro e w2 ⟨rfl, hb1_⟩
  rw [← HLa.out]
  have HB1 := Lib.hid (below_next HB0.out hb1_)
  have HX1 := Lib.hid (HX0.out.keep hb1_)
  have HT1 := Lib.hid (HT0.out.keep hb1_)
  clear hb1_ C0
  have C0 := HX1.out.cell
  obtain ⟨lb, hlb⟩ : ∃ l, l = Lib.itoa b := ⟨_, rfl⟩
  have hzb : lb.length ≤ 65536 := by rw [hlb]; exact itoa_len (by omega) (by omega)
  have HLb := Lib.hid hlb
  clear hlb
  go_wp2_with fail
  refine (itoa_any b _ (by omega) (by omega) HT1.out).mono ?_
  rintro e w3 ⟨rfl, hb2_⟩
  rw [← HLb.out]
  have HB2 := Lib.hid (below_next HB1.out hb2_)
  have HX2 := Lib.hid (HX1.out.keep hb2_)
  have HT2 := Lib.hid (HT1.out.keep hb2_)
  clear hb2_ C0
  have C0 := HX2.out.cell
  go_wp2
  go_ret
  refine ⟨ret_str ?_, HB2.out⟩
  unfold asmL
  rw [← HLa.out]
  rw [← HLb.out]
  apply ByteArray.ext
  simp [uA, uB, uZ, opN, ByteArray.data_append]

set_option maxHeartbeats 2000000 in
theorem i_assemblyText_6 (a b n : Int) (w : World) (ht : Tab w) (hN : Nms w) (ha0 : 0 ≤ a) (ha1 : a ≤ 3) (hb0 : 0 ≤ b) (hb1 : b ≤ 3) (hn0 : 0 ≤ n) (hn1 : n ≤ 65535) :
    Calls Tryd.prog 23 #[insV 6 a b n] w fun e w' => e = .returned (.string ⟨(asmL 6 a b n).toArray⟩) ∧ Below w.heap.size w w' := by
  have HB0 := Lib.hid (below_alloc w (.cells #[.int .i64 6, .int .i64 a, .int .i64 b, .int .i64 n] 26))
  have HX0 := Lib.hid (Box.new w 26 #[.int .i64 6, .int .i64 a, .int .i64 b, .int .i64 n])
  have HT0 := Lib.hid (ht.keep HB0.out)
  have cN := (hN.keep HB0.out).cell 6 _ rfl
  have hu : ∀ w, Calls Tryd.prog 31 #[.int .i64 6] w fun e w' => e = .returned (.tuple #[.int .i64 3, .int .i64 (-1), .int .i64 15]) ∧ w = w' := fun w => uses_any 6 w
  have HU := Lib.hid hu
  clear hu ht hN
  have C0 := HX0.out.cell
  go_enter Tryd.func23, Tryd.ntmps23
  go_wp2_with fail
  refine (HU.out _).mono ?_
  rintro e w1 ⟨rfl, rfl⟩
  obtain ⟨la, hla⟩ : ∃ l, l = Lib.itoa a := ⟨_, rfl⟩
  have hza : la.length ≤ 65536 := by rw [hla]; exact itoa_len (by omega) (by omega)
  have HLa := Lib.hid hla
  clear hla
  go_wp2_with fail
  refine (itoa_any a _ (by omega) (by omega) HT0.out).mono ?_
  rintro e w2 ⟨rfl, hb1_⟩
  rw [← HLa.out]
  have HB1 := Lib.hid (below_next HB0.out hb1_)
  have HX1 := Lib.hid (HX0.out.keep hb1_)
  have HT1 := Lib.hid (HT0.out.keep hb1_)
  clear hb1_ C0
  have C0 := HX1.out.cell
  obtain ⟨ln, hln⟩ : ∃ l, l = Lib.itoa n := ⟨_, rfl⟩
  have hzn : ln.length ≤ 65536 := by rw [hln]; exact itoa_len (by omega) (by omega)
  have HLn := Lib.hid hln
  clear hln
  go_wp2_with fail
  refine (itoa_any n _ (by omega) (by omega) HT1.out).mono ?_
  rintro e w3 ⟨rfl, hb2_⟩
  rw [← HLn.out]
  have HB2 := Lib.hid (below_next HB1.out hb2_)
  have HX2 := Lib.hid (HX1.out.keep hb2_)
  have HT2 := Lib.hid (HT1.out.keep hb2_)
  clear hb2_ C0
  have C0 := HX2.out.cell
  go_wp2
  go_ret
  refine ⟨ret_str ?_, HB2.out⟩
  unfold asmL
  rw [← HLa.out]
  rw [← HLn.out]
  apply ByteArray.ext
  simp [uA, uB, uZ, opN, ByteArray.data_append]

set_option maxHeartbeats 2000000 in
theorem i_assemblyText_7 (a b n : Int) (w : World) (ht : Tab w) (hN : Nms w) (ha0 : 0 ≤ a) (ha1 : a ≤ 3) (hb0 : 0 ≤ b) (hb1 : b ≤ 3) (hn0 : 0 ≤ n) (hn1 : n ≤ 65535) :
    Calls Tryd.prog 23 #[insV 7 a b n] w fun e w' => e = .returned (.string ⟨(asmL 7 a b n).toArray⟩) ∧ Below w.heap.size w w' := by
  have HB0 := Lib.hid (below_alloc w (.cells #[.int .i64 7, .int .i64 a, .int .i64 b, .int .i64 n] 26))
  have HX0 := Lib.hid (Box.new w 26 #[.int .i64 7, .int .i64 a, .int .i64 b, .int .i64 n])
  have HT0 := Lib.hid (ht.keep HB0.out)
  have cN := (hN.keep HB0.out).cell 7 _ rfl
  have hu : ∀ w, Calls Tryd.prog 31 #[.int .i64 7] w fun e w' => e = .returned (.tuple #[.int .i64 (-1), .int .i64 (-1), .int .i64 15]) ∧ w = w' := fun w => uses_any 7 w
  have HU := Lib.hid hu
  clear hu ht hN
  have C0 := HX0.out.cell
  go_enter Tryd.func23, Tryd.ntmps23
  go_wp2_with fail
  refine (HU.out _).mono ?_
  rintro e w1 ⟨rfl, rfl⟩
  obtain ⟨ln, hln⟩ : ∃ l, l = Lib.itoa n := ⟨_, rfl⟩
  have hzn : ln.length ≤ 65536 := by rw [hln]; exact itoa_len (by omega) (by omega)
  have HLn := Lib.hid hln
  clear hln
  go_wp2_with fail
  refine (itoa_any n _ (by omega) (by omega) HT0.out).mono ?_
  rintro e w2 ⟨rfl, hb1_⟩
  rw [← HLn.out]
  have HB1 := Lib.hid (below_next HB0.out hb1_)
  have HX1 := Lib.hid (HX0.out.keep hb1_)
  have HT1 := Lib.hid (HT0.out.keep hb1_)
  clear hb1_ C0
  have C0 := HX1.out.cell
  go_wp2
  go_ret
  refine ⟨ret_str ?_, HB1.out⟩
  unfold asmL
  rw [← HLn.out]
  apply ByteArray.ext
  simp [uA, uB, uZ, opN, ByteArray.data_append]

set_option maxHeartbeats 2000000 in
theorem i_assemblyText_8 (a b n : Int) (w : World) (ht : Tab w) (hN : Nms w) (ha0 : 0 ≤ a) (ha1 : a ≤ 3) (hb0 : 0 ≤ b) (hb1 : b ≤ 3) (hn0 : 0 ≤ n) (hn1 : n ≤ 65535) :
    Calls Tryd.prog 23 #[insV 8 a b n] w fun e w' => e = .returned (.string ⟨(asmL 8 a b n).toArray⟩) ∧ Below w.heap.size w w' := by
  have HB0 := Lib.hid (below_alloc w (.cells #[.int .i64 8, .int .i64 a, .int .i64 b, .int .i64 n] 26))
  have HX0 := Lib.hid (Box.new w 26 #[.int .i64 8, .int .i64 a, .int .i64 b, .int .i64 n])
  have HT0 := Lib.hid (ht.keep HB0.out)
  have cN := (hN.keep HB0.out).cell 8 _ rfl
  have hu : ∀ w, Calls Tryd.prog 31 #[.int .i64 8] w fun e w' => e = .returned (.tuple #[.int .i64 (-1), .int .i64 (-1), .int .i64 15]) ∧ w = w' := fun w => uses_any 8 w
  have HU := Lib.hid hu
  clear hu ht hN
  have C0 := HX0.out.cell
  go_enter Tryd.func23, Tryd.ntmps23
  go_wp2_with fail
  refine (HU.out _).mono ?_
  rintro e w1 ⟨rfl, rfl⟩
  obtain ⟨ln, hln⟩ : ∃ l, l = Lib.itoa n := ⟨_, rfl⟩
  have hzn : ln.length ≤ 65536 := by rw [hln]; exact itoa_len (by omega) (by omega)
  have HLn := Lib.hid hln
  clear hln
  go_wp2_with fail
  refine (itoa_any n _ (by omega) (by omega) HT0.out).mono ?_
  rintro e w2 ⟨rfl, hb1_⟩
  rw [← HLn.out]
  have HB1 := Lib.hid (below_next HB0.out hb1_)
  have HX1 := Lib.hid (HX0.out.keep hb1_)
  have HT1 := Lib.hid (HT0.out.keep hb1_)
  clear hb1_ C0
  have C0 := HX1.out.cell
  go_wp2
  go_ret
  refine ⟨ret_str ?_, HB1.out⟩
  unfold asmL
  rw [← HLn.out]
  apply ByteArray.ext
  simp [uA, uB, uZ, opN, ByteArray.data_append]

set_option maxHeartbeats 2000000 in
theorem i_assemblyText_9 (a b n : Int) (w : World) (ht : Tab w) (hN : Nms w) (ha0 : 0 ≤ a) (ha1 : a ≤ 3) (hb0 : 0 ≤ b) (hb1 : b ≤ 3) (hn0 : 0 ≤ n) (hn1 : n ≤ 65535) :
    Calls Tryd.prog 23 #[insV 9 a b n] w fun e w' => e = .returned (.string ⟨(asmL 9 a b n).toArray⟩) ∧ Below w.heap.size w w' := by
  have HB0 := Lib.hid (below_alloc w (.cells #[.int .i64 9, .int .i64 a, .int .i64 b, .int .i64 n] 26))
  have HX0 := Lib.hid (Box.new w 26 #[.int .i64 9, .int .i64 a, .int .i64 b, .int .i64 n])
  have HT0 := Lib.hid (ht.keep HB0.out)
  have cN := (hN.keep HB0.out).cell 9 _ rfl
  have hu : ∀ w, Calls Tryd.prog 31 #[.int .i64 9] w fun e w' => e = .returned (.tuple #[.int .i64 (-1), .int .i64 (-1), .int .i64 255]) ∧ w = w' := fun w => uses_any 9 w
  have HU := Lib.hid hu
  clear hu ht hN
  have C0 := HX0.out.cell
  go_enter Tryd.func23, Tryd.ntmps23
  go_wp2_with fail
  refine (HU.out _).mono ?_
  rintro e w1 ⟨rfl, rfl⟩
  obtain ⟨ln, hln⟩ : ∃ l, l = Lib.itoa n := ⟨_, rfl⟩
  have hzn : ln.length ≤ 65536 := by rw [hln]; exact itoa_len (by omega) (by omega)
  have HLn := Lib.hid hln
  clear hln
  go_wp2_with fail
  refine (itoa_any n _ (by omega) (by omega) HT0.out).mono ?_
  rintro e w2 ⟨rfl, hb1_⟩
  rw [← HLn.out]
  have HB1 := Lib.hid (below_next HB0.out hb1_)
  have HX1 := Lib.hid (HX0.out.keep hb1_)
  have HT1 := Lib.hid (HT0.out.keep hb1_)
  clear hb1_ C0
  have C0 := HX1.out.cell
  go_wp2
  go_ret
  refine ⟨ret_str ?_, HB1.out⟩
  unfold asmL
  rw [← HLn.out]
  apply ByteArray.ext
  simp [uA, uB, uZ, opN, ByteArray.data_append]

end Go.Proofs.YtlahpnihnpmgoaaDoor
