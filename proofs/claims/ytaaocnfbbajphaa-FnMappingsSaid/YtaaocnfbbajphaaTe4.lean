/- Contract of slices.Delete at one leaf. -/
import Derived.Test.YtaaocnfbbajphaaTc4
import Derived.Lib.SlicesDelete
import Derived.Lib.SliceRun
namespace Go.Proofs.Ytaaocnfbbajphaa
open Go.RowKit
set_option linter.unusedVariables false
set_option linter.unusedSimpArgs false
attribute [local go_sem ↓] Go.wp_at_zero Go.wp_at_succ

theorem setCells_put : ∀ (cs : List Value) (w : World) (b p : Nat), w.setCells b p cs = putAll w b p cs
  | [], _, _, _ => rfl
  | c :: cs, w, b, p => setCells_put cs _ b (p + 1)
theorem putAll_drew : ∀ (cs : List Value) (w : World) (g p : Nat), putAll w.drew g p cs = (putAll w g p cs).drew
  | [], _, _, _ => rfl
  | c :: cs, w, g, p => putAll_drew cs (w.setCell ⟨g, p, none⟩ c) g (p + 1)
theorem own_take {w : World} {B g n c m : Nat} {e : TypeId} {xs : List Value} (h : Own w B ⟨e, 1, some ⟨g, 0, none⟩, n, c, xs⟩) (hm : m ≤ n) : Own w B ⟨e, 1, some ⟨g, 0, none⟩, m, c, xs.take m⟩ := by
  have h1 := h.1
  refine ⟨by simp only at h1 ⊢; rw [List.length_take]; omega, ?_⟩
  rcases h.2 with ⟨hv, _⟩ | ⟨g', cap, cur, hv, hB, hg, hnc, hcm, hsz, htk⟩
  · simp at hv
  · simp only [Value.slice.injEq] at hv
    obtain ⟨hA, _, hc⟩ := hv
    refine .inr ⟨g', cap, cur, by simp only [Value.slice.injEq]; exact ⟨hA, trivial, hc⟩, hB, hg, Nat.le_trans hm hnc, hcm, hsz, ?_⟩
    simp only [Nat.mul_one] at htk ⊢
    rw [← htk, List.take_take, Nat.min_eq_left hm]
theorem zeroRow : ∀ w : World, (zeroValue 71).run Try.prog w = .ok (.slice none 0 0) w := fun _ => by kernel_rfl
theorem setAll_len : ∀ (cs L : List Value) (p : Nat), (setAll L p cs).length = L.length
  | [], _, _ => rfl
  | c :: cs, L, p => by rw [setAll, setAll_len, List.length_set]
theorem del_cells (L : List Leaf) (k : Nat) (hk : k < L.length) :
    (setAll (setAll (L.map Leaf.cell) k ((L.drop (k + 1)).map Leaf.cell)) (L.length - 1) [Value.slice none 0 0]).take (L.length - 1) = (L.eraseIdx k).map Leaf.cell := by
  have h1 : L.map Leaf.cell = (L.take k).map Leaf.cell ++ (L.drop k).map Leaf.cell := by rw [← List.map_append, List.take_append_drop]
  have hl : ((L.take k).map Leaf.cell).length = k := by rw [List.length_map, List.length_take]; omega
  have h2 : setAll (L.map Leaf.cell) k ((L.drop (k + 1)).map Leaf.cell) = (L.take k).map Leaf.cell ++ (L.drop (k + 1)).map Leaf.cell ++ ((L.drop k).map Leaf.cell).drop ((L.drop (k + 1)).map Leaf.cell).length := by
    have h9 := setAll_app ((L.drop (k + 1)).map Leaf.cell) ((L.take k).map Leaf.cell) ((L.drop k).map Leaf.cell) (by rw [List.length_map, List.length_map, List.length_drop, List.length_drop]; omega)
    rw [hl] at h9
    rw [h1]; exact h9
  rw [h2, List.eraseIdx_eq_take_drop_succ, List.map_append]
  have h3 : ((L.take k).map Leaf.cell ++ (L.drop (k + 1)).map Leaf.cell).length = L.length - 1 := by simp; omega
  generalize (L.take k).map Leaf.cell ++ (L.drop (k + 1)).map Leaf.cell = M at h3 ⊢
  show ((M ++ _).set (L.length - 1) _).take (L.length - 1) = M
  rw [take_set_of_le _ _ _ _ (Nat.le_refl _), ← h3, List.take_left]

set_option maxRecDepth 100000 in
set_option maxHeartbeats 4000000 in
theorem delete_any (g k c B : Nat) (L : List Leaf) (w : World) (ho : Own w B (tR (some ⟨g, 0, none⟩) L.length c L)) (hk : k < L.length) (hn : L.length ≤ 4) :
    Calls Try.prog 56 #[.slice (some ⟨g, 0, none⟩) L.length c, .int .i64 k, .int .i64 (k + 1)] w fun e w' => e = .returned (.slice (some ⟨g, 0, none⟩) (L.length - 1) c) ∧ Own w' B (tR (some ⟨g, 0, none⟩) (L.length - 1) c (L.eraseIdx k)) ∧ w.grownBy w' (some g) := by
  obtain ⟨i0, hi0, _, hz1, _⟩ := info_parts Try.info71
  have hcap := own_cap ho
  unfold maxLen at hcap
  obtain ⟨hc1, hc2⟩ : L.length ≤ c ∧ c ≤ 9223372036854775807 := hcap
  obtain ⟨n, hnn⟩ : ∃ n, n = L.length := ⟨_, rfl⟩
  obtain ⟨news, hnews⟩ : ∃ news, news = (L.drop (k + 1)).map Leaf.cell := ⟨_, rfl⟩
  have hlen : news.length = n - (k + 1) := by rw [hnews]; simp [hnn]
  have hcell : ∀ t u, (L.map Leaf.cell)[t]? = some u → w.cell? ⟨g, t, none⟩ = some u := by
    intro t u hu
    rw [World.ownsRow.cellAt ho t (by have := (List.getElem?_eq_some_iff.1 hu).1; rw [List.length_map] at this; show t < L.length * 1; omega)]; exact hu
  obtain ⟨A, hA, hsrc⟩ : ∃ A : Addr, (if c = k + 1 then some (⟨g, 0, none⟩ : Addr) else some ⟨g, k + 1, none⟩) = some A ∧ Hid (∀ t u, news[t]? = some u → w.drew.cell? (A.add t) = some u) := by
    by_cases h : c = k + 1
    · refine ⟨⟨g, 0, none⟩, by simp [h], fun t u hu => ?_⟩
      have h0 : news.length = 0 := by rw [hlen]; omega
      rw [List.length_eq_zero_iff.1 h0] at hu
      simp at hu
    · refine ⟨⟨g, k + 1, none⟩, by simp [h], fun t u hu => ?_⟩
      rw [hnews, List.getElem?_map, List.getElem?_drop, ← List.getElem?_map] at hu
      have hadd : (⟨g, k + 1, none⟩ : Addr).add t = ⟨g, k + 1 + t, none⟩ := by unfold Addr.add; split <;> simp_all
      rw [hadd]
      exact hcell _ _ hu
  have P1 := own_putAll news w _ k ho
  obtain ⟨W1, hW1⟩ : ∃ W1, W1 = w.drew.setCells g (0 + k * 1) news := ⟨_, rfl⟩
  have hW1' : W1 = (putAll w g k news).drew := by rw [hW1, setCells_put, Nat.mul_one, Nat.zero_add]; exact putAll_drew _ _ _ _
  have O1 : Own W1 B ⟨71, 1, some ⟨g, 0, none⟩, L.length, c, setAll (L.map Leaf.cell) k news⟩ := by rw [hW1']; exact P1.1
  have hcl : ∀ ty, (Builtin.clear_ #[25] ty #[.slice (some ⟨g, n - 1, none⟩) 1 (c - (n - 1))]).run Try.prog W1 = .ok (.tuple #[]) (W1.setCells g (n - 1) [.slice none 0 0]) := by
    intro ty
    have hl1 : (setAll (L.map Leaf.cell) k news).length = n := by rw [setAll_len, List.length_map, hnn]
    refine Lib.run_clear_slice W1 _ _ ty _ Try.underlying25 zeroRow rfl rfl g (n - 1) 1 _ (by omega) (fun j hj => ?_) (fun j hj => World.ownsRow.frozenAt O1 _)
    rw [World.ownsRow.cellAt O1 (n - 1 + j) (by show n - 1 + j < L.length * 1; omega)]
    show ((setAll (L.map Leaf.cell) k news)[n - 1 + j]?).isSome = true
    rw [List.getElem?_eq_getElem (by rw [hl1]; omega)]; rfl
  have P2 := own_putAll [Value.slice none 0 0] W1 _ (n - 1) O1
  have O2 := own_take P2.1 (m := L.length - 1) (by omega)
  rw [hnn, hnews, del_cells L k hk] at O2
  have HO2 := Lib.hid O2
  have HG2 : Hid (w.grownBy (putAll W1 g (n - 1) [Value.slice none 0 0]) (some g)) := by
    have h1 : w.grownBy W1 (some g) := by rw [hW1']; exact grown_trans P1.2 (grown_of_below (Below.drew (Below.refl _ _)) _)
    exact grown_trans h1 P2.2
  have s1 : Hid (news.length = (n - (k + 1)) * 1) := by rw [Nat.mul_one]; exact hlen
  have s2 : Hid (∀ u ∈ news, u.oneCell' = true) := by
    intro u hu
    rw [hnews] at hu
    obtain ⟨x, _, rfl⟩ := List.mem_map.1 hu
    rfl
  have s3 : Hid (∀ t, t < news.length → (w.drew.cell? ⟨g, 0 + k * 1 + t, none⟩).isSome = true ∧ w.drew.frozen? ⟨g, 0 + k * 1 + t, none⟩ = false) := by
    intro t ht
    rw [hlen] at ht
    rw [Nat.mul_one, Nat.zero_add]
    refine ⟨?_, World.ownsRow.frozenAt ho _⟩
    show (w.cell? _).isSome = true
    rw [hcell (k + t) _ (List.getElem?_eq_getElem (by rw [List.length_map]; omega))]; rfl
  have hW : Hid (W1 = w.drew.setCells g (0 + k * 1) news) := hW1
  have hkc : k ≤ c := by omega
  have hk1c : k + 1 ≤ c := by omega
  have hk1n : k + 1 ≤ n := by omega
  have hnc : n ≤ c := by omega
  rw [← hnn] at hk hn hc1 ⊢
  obtain ⟨j, hj⟩ : ∃ j, j = k + 1 := ⟨_, rfl⟩
  rw [show ((k : Int) + 1) = (j : Int) by omega]
  rw [← hj] at hA s1 hk1c hk1n
  have hne : ((k : Int) == (j : Int)) = false := by simp; omega
  have hkj : k < j := by omega
  have HNN := Lib.hid hnn
  have HI0 := Lib.hid hi0
  have HZ1 := Lib.hid hz1
  have e1 : k + (n - j) = n - 1 := by omega
  have e2 : n - (k + (n - j)) = 1 := by omega
  have hcl2 : ∀ ty, (Builtin.clear_ #[25] ty #[.slice (some ⟨g, k + (n - j), none⟩) (n - (k + (n - j))) (c - (k + (n - j)))]).run Try.prog W1 = .ok (.tuple #[]) (W1.setCells g (n - 1) [.slice none 0 0]) := by rw [e2, e1]; exact hcl
  have E1 := Lib.hid e1
  have HJ := Lib.hid hj
  clear e1 e2 hcl hj hW1 hW1' hcell hnews hlen O1 O2 P1 P2 ho hnn hi0 hz1
  go_enter Try.func56, Try.ntmps56
  go_wp2_with fail
  go_region_law (refine step_append_room rfl (.tmp 22) (.tmp 25) 25 rfl 71 i0 1 Try.underlying25 HI0.out HZ1.out g 0 k c (by simp [Act.eval, Act.put]) A (n - j) (c - j) news (by simp [Act.eval, Act.put]) s1.out hsrc.out s2.out (by omega) s3.out ?_; rw [← hW.out])
  go_wp2
  go_ret
  refine ⟨?_, by rw [setCells_put, HNN.out]; exact HO2.out, ?_⟩
  · show Ending.returned (.slice (some ⟨g, 0, none⟩) (k + (n - j)) c) = _
    rw [E1.out]
  · rw [setCells_put]; exact HG2.out
end Go.Proofs.Ytaaocnfbbajphaa
