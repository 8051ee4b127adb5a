/- Contract of l3Text: the text of a valid instruction. The tables read as they were laid. -/
import Derived.Test.YtlahpnihnpmgoaaDoorAt
import Derived.Deep.RegionWith
import Derived.Deep.CutRange
namespace Go.Proofs.YtlahpnihnpmgoaaDoor
open Go.RowKit
set_option linter.unusedVariables false
set_option linter.unusedSimpArgs false


set_option maxHeartbeats 1000000 in
theorem l3Names_any (w : World) : Calls Tryd.prog 28 #[] w fun e w' => e = .returned (.slice (some ⟨w.heap.size, 0, none⟩) 10 10) ∧ w.alloc (.cells #[.string ⟨#[104, 97, 108, 116]⟩, .string ⟨#[115, 101, 116]⟩, .string ⟨#[109, 111, 118, 101]⟩, .string ⟨#[97, 100, 100]⟩, .string ⟨#[115, 117, 98]⟩, .string ⟨#[97, 110, 100]⟩, .string ⟨#[115, 104, 105, 102, 116]⟩, .string ⟨#[106, 117, 109, 112]⟩, .string ⟨#[106, 117, 109, 112, 122, 101, 114, 111]⟩, .string ⟨#[116, 114, 97, 112]⟩] 9) = w' := by
  go_enter Tryd.func28, Tryd.ntmps28
  go_wp2
  go_ret
  exact ⟨rfl, rfl⟩

set_option maxHeartbeats 2000000 in
theorem l3Text_0 (a b n : Int) (w : World) (ha0 : 0 ≤ a) (ha1 : a ≤ 3) (hb0 : 0 ≤ b) (hb1 : b ≤ 3) (hn0 : 0 ≤ n) (hn1 : n ≤ 65535) :
    Calls Tryd.prog 22 #[insV 0 a b n] w fun e w' => e = .returned (.string ⟨(asmL 0 a b n).toArray⟩) ∧ Below w.heap.size w w' := by
  have X0 := Box.new w 26 #[.int .i64 0, .int .i64 a, .int .i64 b, .int .i64 n]
  have HX0 := Lib.hid X0
  have hu : ∀ w, Calls Tryd.prog 25 #[.int .i64 0] w fun e w' => e = .returned (.tuple #[.bool false, .bool false, .bool false, .int .i64 0]) ∧ w = w' := fun w => l3Uses_any 0 w
  have HU := Lib.hid hu
  clear hu X0
  have C0 := HX0.out.cell
  go_enter Tryd.func22, Tryd.ntmps22
  go_wp2_with fail
  refine (HU.out _).mono ?_
  rintro e w1 ⟨rfl, rfl⟩
  go_upto_region 2 with (fail)
  go_cut [7] from 16 to 20 (fun t wx => t = .string ⟨#[104, 97, 108, 116]⟩ ∧ Hid (Below (w.alloc (.cells #[.int .i64 0, .int .i64 a, .int .i64 b, .int .i64 n] 26)).heap.size (w.alloc (.cells #[.int .i64 0, .int .i64 a, .int .i64 b, .int .i64 n] 26)) wx))
  case first =>
    go_region_with (first
      | (go_at_call 28; refine (l3Names_any _).mono ?_; rintro e w2 ⟨rfl, rfl⟩))
    all_goals
      go_wp2_with fail
      go_meet
      exact ⟨rfl, Lib.hid ((below_alloc _ _).drew)⟩
  case rest =>
  obtain ⟨rfl, HB⟩ := hcut
  have HB0 := Lib.hid (below_next (below_alloc w _) HB.out)
  have HX1 := Lib.hid (HX0.out.keep HB.out)
  clear C0 HX0 HB
  have HX0 := HX1
  have C0 := HX0.out.cell
  go_wp2
  go_ret
  refine ⟨ret_str ?_, HB0.out⟩
  unfold asmL
  apply ByteArray.ext
  simp [uA, uB, uZ, opN, ByteArray.data_append]

set_option maxHeartbeats 2000000 in
theorem l3Text_1 (a b n : Int) (w : World) (ha0 : 0 ≤ a) (ha1 : a ≤ 3) (hb0 : 0 ≤ b) (hb1 : b ≤ 3) (hn0 : 0 ≤ n) (hn1 : n ≤ 65535) :
    Calls Tryd.prog 22 #[insV 1 a b n] w fun e w' => e = .returned (.string ⟨(asmL 1 a b n).toArray⟩) ∧ Below w.heap.size w w' := by
  have X0 := Box.new w 26 #[.int .i64 1, .int .i64 a, .int .i64 b, .int .i64 n]
  have HX0 := Lib.hid X0
  have hu : ∀ w, Calls Tryd.prog 25 #[.int .i64 1] w fun e w' => e = .returned (.tuple #[.bool true, .bool false, .bool true, .int .i64 65535]) ∧ w = w' := fun w => l3Uses_any 1 w
  have HU := Lib.hid hu
  clear hu X0
  have C0 := HX0.out.cell
  go_enter Tryd.func22, Tryd.ntmps22
  go_wp2_with fail
  refine (HU.out _).mono ?_
  rintro e w1 ⟨rfl, rfl⟩
  go_upto_region 2 with (fail)
  go_cut [7] from 16 to 20 (fun t wx => t = .string ⟨#[115, 101, 116]⟩ ∧ Hid (Below (w.alloc (.cells #[.int .i64 1, .int .i64 a, .int .i64 b, .int .i64 n] 26)).heap.size (w.alloc (.cells #[.int .i64 1, .int .i64 a, .int .i64 b, .int .i64 n] 26)) wx))
  case first =>
    go_region_with (first
      | (go_at_call 28; refine (l3Names_any _).mono ?_; rintro e w2 ⟨rfl, rfl⟩))
    all_goals
      go_wp2_with fail
      go_meet
      exact ⟨rfl, Lib.hid ((below_alloc _ _).drew)⟩
  case rest =>
  obtain ⟨rfl, HB⟩ := hcut
  have HB0 := Lib.hid (below_next (below_alloc w _) HB.out)
  have HX1 := Lib.hid (HX0.out.keep HB.out)
  clear C0 HX0 HB
  have HX0 := HX1
  have C0 := HX0.out.cell
  obtain ⟨la, hla⟩ : ∃ l, l = Lib.itoa a := ⟨_, rfl⟩
  have hza : la.length ≤ 65536 := by rw [hla]; exact itoa_len (by omega) (by omega)
  have HLa := Lib.hid hla
  clear hla
  go_wp2_with fail
  refine (l1Num_any a _ (by omega) (by omega)).mono ?_
  rintro e w2 ⟨rfl, hb1_⟩
  rw [← HLa.out]
  have HB1 := Lib.hid (below_next HB0.out hb1_)
  have HX1 := Lib.hid (HX0.out.keep hb1_)
  clear hb1_ C0
  have C0 := HX1.out.cell
  obtain ⟨ln, hln⟩ : ∃ l, l = Lib.itoa n := ⟨_, rfl⟩
  have hzn : ln.length ≤ 65536 := by rw [hln]; exact itoa_len (by omega) (by omega)
  have HLn := Lib.hid hln
  clear hln
  go_wp2_with fail
  refine (l1Num_any n _ (by omega) (by omega)).mono ?_
  rintro e w3 ⟨rfl, hb2_⟩
  rw [← HLn.out]
  have HB2 := Lib.hid (below_next HB1.out hb2_)
  have HX2 := Lib.hid (HX1.out.keep hb2_)
  clear hb2_ C0
  have C0 := HX2.out.cell
  go_wp2
  go_ret
  refine ⟨ret_str ?_, HB2.out⟩
  unfold asmL
  rw [← HLa.out]
  rw [← HLn.out]
  apply ByteArray.ext
  simp [uA, uB, uZ, opN, ByteArray.data_append]

set_option maxHeartbeats 2000000 in
theorem l3Text_2 (a b n : Int) (w : World) (ha0 : 0 ≤ a) (ha1 : a ≤ 3) (hb0 : 0 ≤ b) (hb1 : b ≤ 3) (hn0 : 0 ≤ n) (hn1 : n ≤ 65535) :
    Calls Tryd.prog 22 #[insV 2 a b n] w fun e w' => e = .returned (.string ⟨(asmL 2 a b n).toArray⟩) ∧ Below w.heap.size w w' := by
  have X0 := Box.new w 26 #[.int .i64 2, .int .i64 a, .int .i64 b, .int .i64 n]
  have HX0 := Lib.hid X0
  have hu : ∀ w, Calls Tryd.prog 25 #[.int .i64 2] w fun e w' => e = .returned (.tuple #[.bool true, .bool true, .bool false, .int .i64 0]) ∧ w = w' := fun w => l3Uses_any 2 w
  have HU := Lib.hid hu
  clear hu X0
  have C0 := HX0.out.cell
  go_enter Tryd.func22, Tryd.ntmps22
  go_wp2_with fail
  refine (HU.out _).mono ?_
  rintro e w1 ⟨rfl, rfl⟩
  go_upto_region 2 with (fail)
  go_cut [7] from 16 to 20 (fun t wx => t = .string ⟨#[109, 111, 118, 101]⟩ ∧ Hid (Below (w.alloc (.cells #[.int .i64 2, .int .i64 a, .int .i64 b, .int .i64 n] 26)).heap.size (w.alloc (.cells #[.int .i64 2, .int .i64 a, .int .i64 b, .int .i64 n] 26)) wx))
  case first =>
    go_region_with (first
      | (go_at_call 28; refine (l3Names_any _).mono ?_; rintro e w2 ⟨rfl, rfl⟩))
    all_goals
      go_wp2_with fail
      go_meet
      exact ⟨rfl, Lib.hid ((below_alloc _ _).drew)⟩
  case rest =>
  obtain ⟨rfl, HB⟩ := hcut
  have HB0 := Lib.hid (below_next (below_alloc w _) HB.out)
  have HX1 := Lib.hid (HX0.out.keep HB.out)
  clear C0 HX0 HB
  have HX0 := HX1
  have C0 := HX0.out.cell
  obtain ⟨la, hla⟩ : ∃ l, l = Lib.itoa a := ⟨_, rfl⟩
  have hza : la.length ≤ 65536 := by rw [hla]; exact itoa_len (by omega) (by omega)
  have HLa := Lib.hid hla
  clear hla
  go_wp2_with fail
  refine (l1Num_any a _ (by omega) (by omega)).mono ?_
  rintro e w2 ⟨rfl, hb1_⟩
  rw [← HLa.out]
  have HB1 := Lib.hid (below_next HB0.out hb1_)
  have HX1 := Lib.hid (HX0.out.keep hb1_)
  clear hb1_ C0
  have C0 := HX1.out.cell
  obtain ⟨lb, hlb⟩ : ∃ l, l = Lib.itoa b := ⟨_, rfl⟩
  have hzb : lb.length ≤ 65536 := by rw [hlb]; exact itoa_len (by omega) (by omega)
  have HLb := Lib.hid hlb
  clear hlb
  go_wp2_with fail
  refine (l1Num_any b _ (by omega) (by omega)).mono ?_
  rintro e w3 ⟨rfl, hb2_⟩
  rw [← HLb.out]
  have HB2 := Lib.hid (below_next HB1.out hb2_)
  have HX2 := Lib.hid (HX1.out.keep hb2_)
  clear hb2_ C0
  have C0 := HX2.out.cell
  go_wp2
  go_ret
  refine ⟨ret_str ?_, HB2.out⟩
  unfold asmL
  rw [← HLa.out]
  rw [← HLb.out]
  apply ByteArray.ext
  simp [uA, uB, uZ, opN, ByteArray.data_append]

set_option maxHeartbeats 2000000 in
theorem l3Text_3 (a b n : Int) (w : World) (ha0 : 0 ≤ a) (ha1 : a ≤ 3) (hb0 : 0 ≤ b) (hb1 : b ≤ 3) (hn0 : 0 ≤ n) (hn1 : n ≤ 65535) :
    Calls Tryd.prog 22 #[insV 3 a b n] w fun e w' => e = .returned (.string ⟨(asmL 3 a b n).toArray⟩) ∧ Below w.heap.size w w' := by
  have X0 := Box.new w 26 #[.int .i64 3, .int .i64 a, .int .i64 b, .int .i64 n]
  have HX0 := Lib.hid X0
  have hu : ∀ w, Calls Tryd.prog 25 #[.int .i64 3] w fun e w' => e = .returned (.tuple #[.bool true, .bool true, .bool false, .int .i64 0]) ∧ w = w' := fun w => l3Uses_any 3 w
  have HU := Lib.hid hu
  clear hu X0
  have C0 := HX0.out.cell
  go_enter Tryd.func22, Tryd.ntmps22
  go_wp2_with fail
  refine (HU.out _).mono ?_
  rintro e w1 ⟨rfl, rfl⟩
  go_upto_region 2 with (fail)
  go_cut [7] from 16 to 20 (fun t wx => t = .string ⟨#[97, 100, 100]⟩ ∧ Hid (Below (w.alloc (.cells #[.int .i64 3, .int .i64 a, .int .i64 b, .int .i64 n] 26)).heap.size (w.alloc (.cells #[.int .i64 3, .int .i64 a, .int .i64 b, .int .i64 n] 26)) wx))
  case first =>
    go_region_with (first
      | (go_at_call 28; refine (l3Names_any _).mono ?_; rintro e w2 ⟨rfl, rfl⟩))
    all_goals
      go_wp2_with fail
      go_meet
      exact ⟨rfl, Lib.hid ((below_alloc _ _).drew)⟩
  case rest =>
  obtain ⟨rfl, HB⟩ := hcut
  have HB0 := Lib.hid (below_next (below_alloc w _) HB.out)
  have HX1 := Lib.hid (HX0.out.keep HB.out)
  clear C0 HX0 HB
  have HX0 := HX1
  have C0 := HX0.out.cell
  obtain ⟨la, hla⟩ : ∃ l, l = Lib.itoa a := ⟨_, rfl⟩
  have hza : la.length ≤ 65536 := by rw [hla]; exact itoa_len (by omega) (by omega)
  have HLa := Lib.hid hla
  clear hla
  go_wp2_with fail
  refine (l1Num_any a _ (by omega) (by omega)).mono ?_
  rintro e w2 ⟨rfl, hb1_⟩
  rw [← HLa.out]
  have HB1 := Lib.hid (below_next HB0.out hb1_)
  have HX1 := Lib.hid (HX0.out.keep hb1_)
  clear hb1_ C0
  have C0 := HX1.out.cell
  obtain ⟨lb, hlb⟩ : ∃ l, l = Lib.itoa b := ⟨_, rfl⟩
  have hzb : lb.length ≤ 65536 := by rw [hlb]; exact itoa_len (by omega) (by omega)
  have HLb := Lib.hid hlb
  clear hlb
  go_wp2_with fail
  refine (l1Num_any b _ (by omega) (by omega)).mono ?_
  rintro e w3 ⟨rfl, hb2_⟩
  rw [← HLb.out]
  have HB2 := Lib.hid (below_next HB1.out hb2_)
  have HX2 := Lib.hid (HX1.out.keep hb2_)
  clear hb2_ C0
  have C0 := HX2.out.cell
  go_wp2
  go_ret
  refine ⟨ret_str ?_, HB2.out⟩
  unfold asmL
  rw [← HLa.out]
  rw [← HLb.out]
  apply ByteArray.ext
  simp [uA, uB, uZ, opN, ByteArray.data_append]

set_option maxHeartbeats 2000000 in
theorem l3Text_4 (a b n : Int) (w : World) (ha0 : 0 ≤ a) (ha1 : a ≤ 3) (hb0 : 0 ≤ b) (hb1 : b ≤ 3) (hn0 : 0 ≤ n) (hn1 : n ≤ 65535) :
    Calls Tryd.prog 22 #[insV 4 a b n] w fun e w' => e = .returned (.string ⟨(asmL 4 a b n).toArray⟩) ∧ Below w.heap.size w w' := by
  have X0 := Box.new w 26 #[.int .i64 4, .int .i64 a, .int .i64 b, .int .i64 n]
  have HX0 := Lib.hid X0
  have hu : ∀ w, Calls Tryd.prog 25 #[.int .i64 4] w fun e w' => e = .returned (.tuple #[.bool true, .bool true, .bool false, .int .i64 0]) ∧ w = w' := fun w => l3Uses_any 4 w
  have HU := Lib.hid hu
  clear hu X0
  have C0 := HX0.out.cell
  go_enter Tryd.func22, Tryd.ntmps22
  go_wp2_with fail
  refine (HU.out _).mono ?_
  rintro e w1 ⟨rfl, rfl⟩
  go_upto_region 2 with (fail)
  go_cut [7] from 16 to 20 (fun t wx => t = .string ⟨#[115, 117, 98]⟩ ∧ Hid (Below (w.alloc (.cells #[.int .i64 4, .int .i64 a, .int .i64 b, .int .i64 n] 26)).heap.size (w.alloc (.cells #[.int .i64 4, .int .i64 a, .int .i64 b, .int .i64 n] 26)) wx))
  case first =>
    go_region_with (first
      | (go_at_call 28; refine (l3Names_any _).mono ?_; rintro e w2 ⟨rfl, rfl⟩))
    all_goals
      go_wp2_with fail
      go_meet
      exact ⟨rfl, Lib.hid ((below_alloc _ _).drew)⟩
  case rest =>
  obtain ⟨rfl, HB⟩ := hcut
  have HB0 := Lib.hid (below_next (below_alloc w _) HB.out)
  have HX1 := Lib.hid (HX0.out.keep HB.out)
  clear C0 HX0 HB
  have HX0 := HX1
  have C0 := HX0.out.cell
  obtain ⟨la, hla⟩ : ∃ l, l = Lib.itoa a := ⟨_, rfl⟩
  have hza : la.length ≤ 65536 := by rw [hla]; exact itoa_len (by omega) (by omega)
  have HLa := Lib.hid hla
  clear hla
  go_wp2_with fail
  refine (l1Num_any a _ (by omega) (by omega)).mono ?_
  rintro e w2 ⟨rfl, hb1_⟩
  rw [← HLa.out]
  have HB1 := Lib.hid (below_next HB0.out hb1_)
  have HX1 := Lib.hid (HX0.out.keep hb1_)
  clear hb1_ C0
  have C0 := HX1.out.cell
  obtain ⟨lb, hlb⟩ : ∃ l, l = Lib.itoa b := ⟨_, rfl⟩
  have hzb : lb.length ≤ 65536 := by rw [hlb]; exact itoa_len (by omega) (by omega)
  have HLb := Lib.hid hlb
  clear hlb
  go_wp2_with fail
  refine (l1Num_any b _ (by omega) (by omega)).mono ?_
  rintro e w3 ⟨rfl, hb2_⟩
  rw [← HLb.out]
  have HB2 := Lib.hid (below_next HB1.out hb2_)
  have HX2 := Lib.hid (HX1.out.keep hb2_)
  clear hb2_ C0
  have C0 := HX2.out.cell
  go_wp2
  go_ret
  refine ⟨ret_str ?_, HB2.out⟩
  unfold asmL
  rw [← HLa.out]
  rw [← HLb.out]
  apply ByteArray.ext
  simp [uA, uB, uZ, opN, ByteArray.data_append]

set_option maxHeartbeats 2000000 in
theorem l3Text_5 (a b n : Int) (w : World) (ha0 : 0 ≤ a) (ha1 : a ≤ 3) (hb0 : 0 ≤ b) (hb1 : b ≤ 3) (hn0 : 0 ≤ n) (hn1 : n ≤ 65535) :
    Calls Tryd.prog 22 #[insV 5 a b n] w fun e w' => e = .returned (.string ⟨(asmL 5 a b n).toArray⟩) ∧ Below w.heap.size w w' := by
  have X0 := Box.new w 26 #[.int .i64 5, .int .i64 a, .int .i64 b, .int .i64 n]
  have HX0 := Lib.hid X0
  have hu : ∀ w, Calls Tryd.prog 25 #[.int .i64 5] w fun e w' => e = .returned (.tuple #[.bool true, .bool true, .bool false, .int .i64 0]) ∧ w = w' := fun w => l3Uses_any 5 w
  have HU := Lib.hid hu
  clear hu X0
  have C0 := HX0.out.cell
  go_enter Tryd.func22, Tryd.ntmps22
  go_wp2_with fail
  refine (HU.out _).mono ?_
  rintro e w1 ⟨rfl, rfl⟩
  go_upto_region 2 with (fail)
  go_cut [7] from 16 to 20 (fun t wx => t = .string ⟨#[97, 110, 100]⟩ ∧ Hid (Below (w.alloc (.cells #[.int .i64 5, .int .i64 a, .int .i64 b, .int .i64 n] 26)).heap.size (w.alloc (.cells #[.int .i64 5, .int .i64 a, .int .i64 b, .int .i64 n] 26)) wx))
  case first =>
    go_region_with (first
      | (go_at_call 28; refine (l3Names_any _).mono ?_; rintro e w2 ⟨rfl, rfl⟩))
    all_goals
      go_wp2_with fail
      go_meet
      exact ⟨rfl, Lib.hid ((below_alloc _ _).drew)⟩
  case rest =>
  obtain ⟨rfl, HB⟩ := hcut
  have HB0 := Lib.hid (below_next (below_alloc w _) HB.out)
  have HX1 := Lib.hid (HX0.out.keep HB.out)
  clear C0 HX0 HB
  have HX0 := HX1
  have C0 := HX0.out.cell
  obtain ⟨la, hla⟩ : ∃ l, l = Lib.itoa a := ⟨_, rfl⟩
  have hza : la.length ≤ 65536 := by rw [hla]; exact itoa_len (by omega) (by omega)
  have HLa := Lib.hid hla
  clear hla
  go_wp2_with fail
  refine (l1Num_any a _ (by omega) (by omega)).mono ?_
  rintro e w2 ⟨rfl, hb1_⟩
  rw [← HLa.out]
  have HB1 := Lib.hid (below_next HB0.out hb1_)
  have HX1 := Lib.hid (HX0.out.keep hb1_)
  clear hb1_ C0
  have C0 := HX1.out.cell
  obtain ⟨lb, hlb⟩ : ∃ l, l = Lib.itoa b := ⟨_, rfl⟩
  have hzb : lb.length ≤ 65536 := by rw [hlb]; exact itoa_len (by omega) (by omega)
  have HLb := Lib.hid hlb
  clear hlb
  go_wp2_with fail
  refine (l1Num_any b _ (by omega) (by omega)).mono ?_
  rintro e w3 ⟨rfl, hb2_⟩
  rw [← HLb.out]
  have HB2 := Lib.hid (below_next HB1.out hb2_)
  have HX2 := Lib.hid (HX1.out.keep hb2_)
  clear hb2_ C0
  have C0 := HX2.out.cell
  go_wp2
  go_ret
  refine ⟨ret_str ?_, HB2.out⟩
  unfold asmL
  rw [← HLa.out]
  rw [← HLb.out]
  apply ByteArray.ext
  simp [uA, uB, uZ, opN, ByteArray.data_append]

set_option maxHeartbeats 2000000 in
theorem l3Text_6 (a b n : Int) (w : World) (ha0 : 0 ≤ a) (ha1 : a ≤ 3) (hb0 : 0 ≤ b) (hb1 : b ≤ 3) (hn0 : 0 ≤ n) (hn1 : n ≤ 65535) :
    Calls Tryd.prog 22 #[insV 6 a b n] w fun e w' => e = .returned (.string ⟨(asmL 6 a b n).toArray⟩) ∧ Below w.heap.size w w' := by
  have X0 := Box.new w 26 #[.int .i64 6, .int .i64 a, .int .i64 b, .int .i64 n]
  have HX0 := Lib.hid X0
  have hu : ∀ w, Calls Tryd.prog 25 #[.int .i64 6] w fun e w' => e = .returned (.tuple #[.bool true, .bool false, .bool true, .int .i64 15]) ∧ w = w' := fun w => l3Uses_any 6 w
  have HU := Lib.hid hu
  clear hu X0
  have C0 := HX0.out.cell
  go_enter Tryd.func22, Tryd.ntmps22
  go_wp2_with fail
  refine (HU.out _).mono ?_
  rintro e w1 ⟨rfl, rfl⟩
  go_upto_region 2 with (fail)
  go_cut [7] from 16 to 20 (fun t wx => t = .string ⟨#[115, 104, 105, 102, 116]⟩ ∧ Hid (Below (w.alloc (.cells #[.int .i64 6, .int .i64 a, .int .i64 b, .int .i64 n] 26)).heap.size (w.alloc (.cells #[.int .i64 6, .int .i64 a, .int .i64 b, .int .i64 n] 26)) wx))
  case first =>
    go_region_with (first
      | (go_at_call 28; refine (l3Names_any _).mono ?_; rintro e w2 ⟨rfl, rfl⟩))
    all_goals
      go_wp2_with fail
      go_meet
      exact ⟨rfl, Lib.hid ((below_alloc _ _).drew)⟩
  case rest =>
  obtain ⟨rfl, HB⟩ := hcut
  have HB0 := Lib.hid (below_next (below_alloc w _) HB.out)
  have HX1 := Lib.hid (HX0.out.keep HB.out)
  clear C0 HX0 HB
  have HX0 := HX1
  have C0 := HX0.out.cell
  obtain ⟨la, hla⟩ : ∃ l, l = Lib.itoa a := ⟨_, rfl⟩
  have hza : la.length ≤ 65536 := by rw [hla]; exact itoa_len (by omega) (by omega)
  have HLa := Lib.hid hla
  clear hla
  go_wp2_with fail
  refine (l1Num_any a _ (by omega) (by omega)).mono ?_
  rintro e w2 ⟨rfl, hb1_⟩
  rw [← HLa.out]
  have HB1 := Lib.hid (below_next HB0.out hb1_)
  have HX1 := Lib.hid (HX0.out.keep hb1_)
  clear hb1_ C0
  have C0 := HX1.out.cell
  obtain ⟨ln, hln⟩ : ∃ l, l = Lib.itoa n := ⟨_, rfl⟩
  have hzn : ln.length ≤ 65536 := by rw [hln]; exact itoa_len (by omega) (by omega)
  have HLn := Lib.hid hln
  clear hln
  go_wp2_with fail
  refine (l1Num_any n _ (by omega) (by omega)).mono ?_
  rintro e w3 ⟨rfl, hb2_⟩
  rw [← HLn.out]
  have HB2 := Lib.hid (below_next HB1.out hb2_)
  have HX2 := Lib.hid (HX1.out.keep hb2_)
  clear hb2_ C0
  have C0 := HX2.out.cell
  go_wp2
  go_ret
  refine ⟨ret_str ?_, HB2.out⟩
  unfold asmL
  rw [← HLa.out]
  rw [← HLn.out]
  apply ByteArray.ext
  simp [uA, uB, uZ, opN, ByteArray.data_append]

set_option maxHeartbeats 2000000 in
theorem l3Text_7 (a b n : Int) (w : World) (ha0 : 0 ≤ a) (ha1 : a ≤ 3) (hb0 : 0 ≤ b) (hb1 : b ≤ 3) (hn0 : 0 ≤ n) (hn1 : n ≤ 65535) :
    Calls Tryd.prog 22 #[insV 7 a b n] w fun e w' => e = .returned (.string ⟨(asmL 7 a b n).toArray⟩) ∧ Below w.heap.size w w' := by
  have X0 := Box.new w 26 #[.int .i64 7, .int .i64 a, .int .i64 b, .int .i64 n]
  have HX0 := Lib.hid X0
  have hu : ∀ w, Calls Tryd.prog 25 #[.int .i64 7] w fun e w' => e = .returned (.tuple #[.bool false, .bool false, .bool true, .int .i64 15]) ∧ w = w' := fun w => l3Uses_any 7 w
  have HU := Lib.hid hu
  clear hu X0
  have C0 := HX0.out.cell
  go_enter Tryd.func22, Tryd.ntmps22
  go_wp2_with fail
  refine (HU.out _).mono ?_
  rintro e w1 ⟨rfl, rfl⟩
  go_upto_region 2 with (fail)
  go_cut [7] from 16 to 20 (fun t wx => t = .string ⟨#[106, 117, 109, 112]⟩ ∧ Hid (Below (w.alloc (.cells #[.int .i64 7, .int .i64 a, .int .i64 b, .int .i64 n] 26)).heap.size (w.alloc (.cells #[.int .i64 7, .int .i64 a, .int .i64 b, .int .i64 n] 26)) wx))
  case first =>
    go_region_with (first
      | (go_at_call 28; refine (l3Names_any _).mono ?_; rintro e w2 ⟨rfl, rfl⟩))
    all_goals
      go_wp2_with fail
      go_meet
      exact ⟨rfl, Lib.hid ((below_alloc _ _).drew)⟩
  case rest =>
  obtain ⟨rfl, HB⟩ := hcut
  have HB0 := Lib.hid (below_next (below_alloc w _) HB.out)
  have HX1 := Lib.hid (HX0.out.keep HB.out)
  clear C0 HX0 HB
  have HX0 := HX1
  have C0 := HX0.out.cell
  obtain ⟨ln, hln⟩ : ∃ l, l = Lib.itoa n := ⟨_, rfl⟩
  have hzn : ln.length ≤ 65536 := by rw [hln]; exact itoa_len (by omega) (by omega)
  have HLn := Lib.hid hln
  clear hln
  go_wp2_with fail
  refine (l1Num_any n _ (by omega) (by omega)).mono ?_
  rintro e w2 ⟨rfl, hb1_⟩
  rw [← HLn.out]
  have HB1 := Lib.hid (below_next HB0.out hb1_)
  have HX1 := Lib.hid (HX0.out.keep hb1_)
  clear hb1_ C0
  have C0 := HX1.out.cell
  go_wp2
  go_ret
  refine ⟨ret_str ?_, HB1.out⟩
  unfold asmL
  rw [← HLn.out]
  apply ByteArray.ext
  simp [uA, uB, uZ, opN, ByteArray.data_append]

set_option maxHeartbeats 2000000 in
theorem l3Text_8 (a b n : Int) (w : World) (ha0 : 0 ≤ a) (ha1 : a ≤ 3) (hb0 : 0 ≤ b) (hb1 : b ≤ 3) (hn0 : 0 ≤ n) (hn1 : n ≤ 65535) :
    Calls Tryd.prog 22 #[insV 8 a b n] w fun e w' => e = .returned (.string ⟨(asmL 8 a b n).toArray⟩) ∧ Below w.heap.size w w' := by
  have X0 := Box.new w 26 #[.int .i64 8, .int .i64 a, .int .i64 b, .int .i64 n]
  have HX0 := Lib.hid X0
  have hu : ∀ w, Calls Tryd.prog 25 #[.int .i64 8] w fun e w' => e = .returned (.tuple #[.bool false, .bool false, .bool true, .int .i64 15]) ∧ w = w' := fun w => l3Uses_any 8 w
  have HU := Lib.hid hu
  clear hu X0
  have C0 := HX0.out.cell
  go_enter Tryd.func22, Tryd.ntmps22
  go_wp2_with fail
  refine (HU.out _).mono ?_
  rintro e w1 ⟨rfl, rfl⟩
  go_upto_region 2 with (fail)
  go_cut [7] from 16 to 20 (fun t wx => t = .string ⟨#[106, 117, 109, 112, 122, 101, 114, 111]⟩ ∧ Hid (Below (w.alloc (.cells #[.int .i64 8, .int .i64 a, .int .i64 b, .int .i64 n] 26)).heap.size (w.alloc (.cells #[.int .i64 8, .int .i64 a, .int .i64 b, .int .i64 n] 26)) wx))
  case first =>
    go_region_with (first
      | (go_at_call 28; refine (l3Names_any _).mono ?_; rintro e w2 ⟨rfl, rfl⟩))
    all_goals
      go_wp2_with fail
      go_meet
      exact ⟨rfl, Lib.hid ((below_alloc _ _).drew)⟩
  case rest =>
  obtain ⟨rfl, HB⟩ := hcut
  have HB0 := Lib.hid (below_next (below_alloc w _) HB.out)
  have HX1 := Lib.hid (HX0.out.keep HB.out)
  clear C0 HX0 HB
  have HX0 := HX1
  have C0 := HX0.out.cell
  obtain ⟨ln, hln⟩ : ∃ l, l = Lib.itoa n := ⟨_, rfl⟩
  have hzn : ln.length ≤ 65536 := by rw [hln]; exact itoa_len (by omega) (by omega)
  have HLn := Lib.hid hln
  clear hln
  go_wp2_with fail
  refine (l1Num_any n _ (by omega) (by omega)).mono ?_
  rintro e w2 ⟨rfl, hb1_⟩
  rw [← HLn.out]
  have HB1 := Lib.hid (below_next HB0.out hb1_)
  have HX1 := Lib.hid (HX0.out.keep hb1_)
  clear hb1_ C0
  have C0 := HX1.out.cell
  go_wp2
  go_ret
  refine ⟨ret_str ?_, HB1.out⟩
  unfold asmL
  rw [← HLn.out]
  apply ByteArray.ext
  simp [uA, uB, uZ, opN, ByteArray.data_append]

set_option maxHeartbeats 2000000 in
theorem l3Text_9 (a b n : Int) (w : World) (ha0 : 0 ≤ a) (ha1 : a ≤ 3) (hb0 : 0 ≤ b) (hb1 : b ≤ 3) (hn0 : 0 ≤ n) (hn1 : n ≤ 65535) :
    Calls Tryd.prog 22 #[insV 9 a b n] w fun e w' => e = .returned (.string ⟨(asmL 9 a b n).toArray⟩) ∧ Below w.heap.size w w' := by
  have X0 := Box.new w 26 #[.int .i64 9, .int .i64 a, .int .i64 b, .int .i64 n]
  have HX0 := Lib.hid X0
  have hu : ∀ w, Calls Tryd.prog 25 #[.int .i64 9] w fun e w' => e = .returned (.tuple #[.bool false, .bool false, .bool true, .int .i64 255]) ∧ w = w' := fun w => l3Uses_any 9 w
  have HU := Lib.hid hu
  clear hu X0
  have C0 := HX0.out.cell
  go_enter Tryd.func22, Tryd.ntmps22
  go_wp2_with fail
  refine (HU.out _).mono ?_
  rintro e w1 ⟨rfl, rfl⟩
  go_upto_region 2 with (fail)
  go_cut [7] from 16 to 20 (fun t wx => t = .string ⟨#[116, 114, 97, 112]⟩ ∧ Hid (Below (w.alloc (.cells #[.int .i64 9, .int .i64 a, .int .i64 b, .int .i64 n] 26)).heap.size (w.alloc (.cells #[.int .i64 9, .int .i64 a, .int .i64 b, .int .i64 n] 26)) wx))
  case first =>
    go_region_with (first
      | (go_at_call 28; refine (l3Names_any _).mono ?_; rintro e w2 ⟨rfl, rfl⟩))
    all_goals
      go_wp2_with fail
      go_meet
      exact ⟨rfl, Lib.hid ((below_alloc _ _).drew)⟩
  case rest =>
  obtain ⟨rfl, HB⟩ := hcut
  have HB0 := Lib.hid (below_next (below_alloc w _) HB.out)
  have HX1 := Lib.hid (HX0.out.keep HB.out)
  clear C0 HX0 HB
  have HX0 := HX1
  have C0 := HX0.out.cell
  obtain ⟨ln, hln⟩ : ∃ l, l = Lib.itoa n := ⟨_, rfl⟩
  have hzn : ln.length ≤ 65536 := by rw [hln]; exact itoa_len (by omega) (by omega)
  have HLn := Lib.hid hln
  clear hln
  go_wp2_with fail
  refine (l1Num_any n _ (by omega) (by omega)).mono ?_
  rintro e w2 ⟨rfl, hb1_⟩
  rw [← HLn.out]
  have HB1 := Lib.hid (below_next HB0.out hb1_)
  have HX1 := Lib.hid (HX0.out.keep hb1_)
  clear hb1_ C0
  have C0 := HX1.out.cell
  go_wp2
  go_ret
  refine ⟨ret_str ?_, HB1.out⟩
  unfold asmL
  rw [← HLn.out]
  apply ByteArray.ext
  simp [uA, uB, uZ, opN, ByteArray.data_append]
end Go.Proofs.YtlahpnihnpmgoaaDoor
