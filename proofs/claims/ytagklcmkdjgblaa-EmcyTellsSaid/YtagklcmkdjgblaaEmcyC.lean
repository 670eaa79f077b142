/- What slices.Delete of one element comes to. -/
import Derived.Test.YtagklcmkdjgblaaEmcyB
namespace Go.Proofs.Ytagklcmkdjgblaa.Emcy
open Go.RowKit Go.Proofs.Ytagklcmkdjgblaa.Own
theorem under22 : Try.prog.underlying 22 = some (.slice 33) := by kernel_rfl
theorem under48 : Try.prog.underlying 48 = some (.slice 35) := by kernel_rfl
def trZ : Value := .agg #[.int .u16 0, .int .u8 0, .int .u8 0, .int .u8 0, .int .u8 0, .int .u8 0, .int .u8 0]
def frZ : Value := .agg #[.int .u8 0, .int .u8 0, .int .u8 0, .int .u8 0, .int .u8 0, .int .u8 0, .int .u8 0, .int .u8 0]
theorem info33 : (Try.prog.info? 33).map (fun i => (i.zero, i.size, i.bytes)) = some (some trZ, 7, 8) := by kernel_rfl
theorem info35 : (Try.prog.info? 35).map (fun i => (i.zero, i.size, i.bytes)) = some (some frZ, 8, 8) := by kernel_rfl
theorem zero33 : ∀ w, (zeroValue 33).run Try.prog w = .ok trZ w := by
  obtain ⟨i, hi, hz, _⟩ := info_parts info33
  intro w
  simp [zeroValue, typeInfo, hi, hz]
theorem zero35 : ∀ w, (zeroValue 35).run Try.prog w = .ok frZ w := by
  obtain ⟨i, hi, hz, _⟩ := info_parts info35
  intro w
  simp [zeroValue, typeInfo, hi, hz]
set_option maxRecDepth 100000 in
set_option maxHeartbeats 4000000 in
theorem Delete27_any {w : World} (g cap : Nat) (xs : List Value) (n i : Nat) (hi : i < n) (h : w.ownsRow 0 33 7 (.slice (some ⟨g, 0, none⟩) n cap) n xs) (h1 : ∀ u ∈ xs, u.oneCell' = true) (hn : n ≤ 1000000000000000) :
    Calls Try.prog 27 #[.slice (some ⟨g, 0, none⟩) n cap, .int .i64 i, .int .i64 ((i : Int) + 1)] w fun e w' => e = .returned (.slice (some ⟨g, 0, none⟩) (n - 1) cap) ∧ w'.ownsRow 0 33 7 (.slice (some ⟨g, 0, none⟩) (n - 1) cap) (n - 1) (xs.take (i * 7) ++ xs.drop ((i + 1) * 7)) ∧ Keep (Own.One g) w w' := by
  obtain ⟨hxl, ⟨hv, _⟩ | ⟨g', cap', cur, hv, _, hh, hnc, hcm, hcs, htk⟩⟩ := h
  · cases hv
  simp only [Value.slice.injEq, Option.some.injEq, Addr.mk.injEq, and_true, true_and] at hv
  obtain ⟨rfl, rfl⟩ := hv
  have hB : Blk w g cur 33 := hh
  obtain ⟨A, hA, hsrc⟩ : ∃ A : Addr, (if cap = i + 1 then some (⟨g, 0, none⟩ : Addr) else some ⟨g, (i + 1) * 7, none⟩) = some A ∧ Row w.drew (some A) (xs.drop ((i + 1) * 7)) := by
    by_cases h : cap = i + 1
    · refine ⟨⟨g, 0, none⟩, by simp [h], ?_⟩
      rw [List.drop_of_length_le (by rw [hxl]; omega)]
      exact Row.nil _ _
    · refine ⟨⟨g, (i + 1) * 7, none⟩, by simp [h], fun j u hj => ⟨g, (i + 1) * 7, rfl, hB.lt, ?_⟩⟩
      have hj2 : (i + 1) * 7 + j < n * 7 := by
        have := (List.getElem?_eq_some_iff.1 hj).1
        rw [List.length_drop, hxl] at this
        omega
      rw [List.getElem?_drop, ← htk, List.getElem?_take, if_pos hj2, Array.getElem?_toList] at hj
      exact (Blk.cell (hB.drew) _).trans hj
  have hnl : (xs.drop ((i + 1) * 7)).length = (n - (i + 1)) * 7 := by rw [List.length_drop, hxl, Nat.sub_mul]
  obtain ⟨ii, hi0, hz, hsize, hby⟩ := info_parts (P := Try.prog) (e := 33) info33
  have hap : ∀ ty, (Builtin.append_ #[22, 22] ty #[.slice (some ⟨g, 0, none⟩) i cap, .slice (some A) (n - (i + 1)) (cap - (i + 1))]).run Try.prog w.drew = .ok (.slice (some ⟨g, 0, none⟩) (i + (n - (i + 1))) cap) (w.drew.setRow g (cur.toList.take (i * ii.size) ++ xs.drop ((i + 1) * 7) ++ cur.toList.drop (i * ii.size + (xs.drop ((i + 1) * 7)).length)).toArray) := fun ty =>
    run_append_room (w := w.drew) 22 ty 33 ii under22 hi0 g i cap cur hh A (n - (i + 1)) (cap - (i + 1)) _ (by rw [hsize]; exact hnl) (row_cells hsrc) (fun u hu => h1 u (List.mem_of_mem_drop hu)) (by omega) (by rw [hsize, hnl, hcs]; omega)
  obtain ⟨W1, hW1⟩ : ∃ W1, W1 = w.drew.setRow g (cur.toList.take (i * ii.size) ++ xs.drop ((i + 1) * 7) ++ cur.toList.drop (i * ii.size + (xs.drop ((i + 1) * 7)).length)).toArray := ⟨_, rfl⟩
  rw [← hW1] at hap
  have hcl0 : (cur.toList.take (i * ii.size) ++ xs.drop ((i + 1) * 7) ++ cur.toList.drop (i * ii.size + (xs.drop ((i + 1) * 7)).length)).length = cap * 7 := by
    rw [hsize, List.length_append, List.length_append, hnl, List.length_take, List.length_drop, Array.length_toList, hcs]
    omega
  have HK1 : Hid (Keep (Own.One g) w W1) := Lib.hid (by rw [hW1]; exact (Keep.refl _ w).drew.trans (setRow_keep _ _ _) (fun k hk => .inl hk))
  obtain ⟨c1, hc1⟩ : ∃ c1 : List Value, c1 = cur.toList.take (i * ii.size) ++ xs.drop ((i + 1) * 7) ++ cur.toList.drop (i * ii.size + (xs.drop ((i + 1) * 7)).length) := ⟨_, rfl⟩
  have HB1 : Hid (Blk W1 g c1.toArray 33) := Lib.hid (by rw [hW1, hc1]; exact setRow_blk hB.drew _)
  rw [← hc1] at hcl0
  have hpre : c1.take ((n - 1) * 7) = xs.take (i * 7) ++ xs.drop ((i + 1) * 7) := by
    have e1 : cur.toList.take (i * 7) = xs.take (i * 7) := by rw [← htk, List.take_take]; congr 1; omega
    rw [hc1, hsize, e1, List.take_append_of_le_length (by rw [List.length_append, hnl, List.length_take, hxl]; omega)]
    exact List.take_of_length_le (by rw [List.length_append, hnl, List.length_take, hxl]; omega)
  have hcl : ∀ ty, (Builtin.clear_ #[22] ty #[.slice (some ⟨g, (i + (n - (i + 1))) * 7, none⟩) (n - (i + (n - (i + 1)))) (cap - (i + (n - (i + 1))))]).run Try.prog W1 = .ok (.tuple #[]) (W1.setRow g (over c1 ((i + (n - (i + 1))) * 7) (Builtin.zeroCells (trZ : Value).cells (n - (i + (n - (i + 1))))).toList).toArray) := fun ty =>
    run_clear_el 22 33 ty trZ under22 zero33 g _ _ _ (by omega) _ 33 HB1.out (by
      have e : c1.toArray.size = cap * 7 := by rw [List.size_toArray]; exact hcl0
      rw [e, show (trZ : Value).cells.size = 7 from rfl, ← Nat.add_mul]
      exact Nat.mul_le_mul_right _ (by omega)) (by decide)
  obtain ⟨W2, hW2⟩ : ∃ W2, W2 = W1.setRow g (over c1 ((i + (n - (i + 1))) * 7) (Builtin.zeroCells (trZ : Value).cells (n - (i + (n - (i + 1))))).toList).toArray := ⟨_, rfl⟩
  rw [← hW2] at hcl
  have HB2 : Hid (Blk W2 g (over c1 ((i + (n - (i + 1))) * 7) (Builtin.zeroCells (trZ : Value).cells (n - (i + (n - (i + 1))))).toList).toArray 33) := Lib.hid (by rw [hW2]; exact setRow_blk HB1.out _)
  have HK2 : Hid (Keep (Own.One g) w W2) := Lib.hid (by rw [hW2]; exact HK1.out.trans (setRow_keep _ _ _) (fun k hk => .inl hk))
  have HO : Hid (W2.ownsRow 0 33 7 (.slice (some ⟨g, 0, none⟩) (n - 1) cap) (n - 1) (xs.take (i * 7) ++ xs.drop ((i + 1) * 7))) := Lib.hid (by
    have hzl : (Builtin.zeroCells (trZ : Value).cells (n - (i + (n - (i + 1))))).toList.length = (n - (i + (n - (i + 1)))) * 7 := by rw [Array.length_toList, size_zeroCells]; rfl
    have hol : (over c1 ((i + (n - (i + 1))) * 7) (Builtin.zeroCells (trZ : Value).cells (n - (i + (n - (i + 1))))).toList).length = cap * 7 := by
      rw [over_length (by rw [hzl, hcl0, ← Nat.add_mul]; exact Nat.mul_le_mul_right _ (by omega)), hcl0]
    refine ⟨?_, .inr ⟨g, cap, _, rfl, Nat.zero_le _, HB2.out, by omega, hcm, by rw [List.size_toArray, hol], ?_⟩⟩
    · rw [List.length_append, hnl, List.length_take, hxl]
      omega
    · rw [← hpre]
      unfold over
      rw [show (i + (n - (i + 1))) = n - 1 by omega, List.append_assoc, List.take_append_of_le_length (by rw [List.length_take, hcl0]; omega), List.take_take]
      congr 1
      omega)
  have hic : i ≤ cap := by omega
  have hjc : i + 1 ≤ cap := by omega
  have hji : ¬ ((i : Int) = (i : Int) + 1) := by omega
  have htn : ((i : Int) + 1).toNat = i + 1 := by omega
  have hj0 : (0 : Int) ≤ (i : Int) + 1 := by omega
  have hj1 : (i : Int) + 1 ≤ (n : Int) := by omega
  have hle : ¬ cap = i + (n - (i + 1)) := by omega
  clear hxl hh htk hcs hsrc hnl hi0 hz hsize hby hW1 hcl0 hc1 hpre hW2 h1 hB
  go_enter Try.func27, Try.ntmps27
  go_wp2_with fail
  go_region_law (refine step_app_eq rfl (.tmp 22) (.tmp 25) 22 22 rfl (.slice (some ⟨g, 0, none⟩) i cap) (.slice (some A) (n - (i + 1)) (cap - (i + 1))) (by simp [Act.eval, Act.put]) (by simp [Act.eval, Act.put]) (hap _) ?_)
  go_wp2_with fail
  go_ret
  exact ⟨congrArg (fun k => Ending.returned (.slice (some ⟨g, 0, none⟩) k cap)) (show i + (n - (i + 1)) = n - 1 by omega), HO.out, HK2.out⟩
set_option maxRecDepth 100000 in
set_option maxHeartbeats 4000000 in
theorem Delete28_any {w : World} (g cap : Nat) (xs : List Value) (n i : Nat) (hi : i < n) (h : w.ownsRow 0 35 8 (.slice (some ⟨g, 0, none⟩) n cap) n xs) (h1 : ∀ u ∈ xs, u.oneCell' = true) (hn : n ≤ 1000000000000000) :
    Calls Try.prog 28 #[.slice (some ⟨g, 0, none⟩) n cap, .int .i64 i, .int .i64 ((i : Int) + 1)] w fun e w' => e = .returned (.slice (some ⟨g, 0, none⟩) (n - 1) cap) ∧ w'.ownsRow 0 35 8 (.slice (some ⟨g, 0, none⟩) (n - 1) cap) (n - 1) (xs.take (i * 8) ++ xs.drop ((i + 1) * 8)) ∧ Keep (Own.One g) w w' := by
  obtain ⟨hxl, ⟨hv, _⟩ | ⟨g', cap', cur, hv, _, hh, hnc, hcm, hcs, htk⟩⟩ := h
  · cases hv
  simp only [Value.slice.injEq, Option.some.injEq, Addr.mk.injEq, and_true, true_and] at hv
  obtain ⟨rfl, rfl⟩ := hv
  have hB : Blk w g cur 35 := hh
  obtain ⟨A, hA, hsrc⟩ : ∃ A : Addr, (if cap = i + 1 then some (⟨g, 0, none⟩ : Addr) else some ⟨g, (i + 1) * 8, none⟩) = some A ∧ Row w.drew (some A) (xs.drop ((i + 1) * 8)) := by
    by_cases h : cap = i + 1
    · refine ⟨⟨g, 0, none⟩, by simp [h], ?_⟩
      rw [List.drop_of_length_le (by rw [hxl]; omega)]
      exact Row.nil _ _
    · refine ⟨⟨g, (i + 1) * 8, none⟩, by simp [h], fun j u hj => ⟨g, (i + 1) * 8, rfl, hB.lt, ?_⟩⟩
      have hj2 : (i + 1) * 8 + j < n * 8 := by
        have := (List.getElem?_eq_some_iff.1 hj).1
        rw [List.length_drop, hxl] at this
        omega
      rw [List.getElem?_drop, ← htk, List.getElem?_take, if_pos hj2, Array.getElem?_toList] at hj
      exact (Blk.cell (hB.drew) _).trans hj
  have hnl : (xs.drop ((i + 1) * 8)).length = (n - (i + 1)) * 8 := by rw [List.length_drop, hxl, Nat.sub_mul]
  obtain ⟨ii, hi0, hz, hsize, hby⟩ := info_parts (P := Try.prog) (e := 35) info35
  have hap : ∀ ty, (Builtin.append_ #[48, 48] ty #[.slice (some ⟨g, 0, none⟩) i cap, .slice (some A) (n - (i + 1)) (cap - (i + 1))]).run Try.prog w.drew = .ok (.slice (some ⟨g, 0, none⟩) (i + (n - (i + 1))) cap) (w.drew.setRow g (cur.toList.take (i * ii.size) ++ xs.drop ((i + 1) * 8) ++ cur.toList.drop (i * ii.size + (xs.drop ((i + 1) * 8)).length)).toArray) := fun ty =>
    run_append_room (w := w.drew) 48 ty 35 ii under48 hi0 g i cap cur hh A (n - (i + 1)) (cap - (i + 1)) _ (by rw [hsize]; exact hnl) (row_cells hsrc) (fun u hu => h1 u (List.mem_of_mem_drop hu)) (by omega) (by rw [hsize, hnl, hcs]; omega)
  obtain ⟨W1, hW1⟩ : ∃ W1, W1 = w.drew.setRow g (cur.toList.take (i * ii.size) ++ xs.drop ((i + 1) * 8) ++ cur.toList.drop (i * ii.size + (xs.drop ((i + 1) * 8)).length)).toArray := ⟨_, rfl⟩
  rw [← hW1] at hap
  have hcl0 : (cur.toList.take (i * ii.size) ++ xs.drop ((i + 1) * 8) ++ cur.toList.drop (i * ii.size + (xs.drop ((i + 1) * 8)).length)).length = cap * 8 := by
    rw [hsize, List.length_append, List.length_append, hnl, List.length_take, List.length_drop, Array.length_toList, hcs]
    omega
  have HK1 : Hid (Keep (Own.One g) w W1) := Lib.hid (by rw [hW1]; exact (Keep.refl _ w).drew.trans (setRow_keep _ _ _) (fun k hk => .inl hk))
  obtain ⟨c1, hc1⟩ : ∃ c1 : List Value, c1 = cur.toList.take (i * ii.size) ++ xs.drop ((i + 1) * 8) ++ cur.toList.drop (i * ii.size + (xs.drop ((i + 1) * 8)).length) := ⟨_, rfl⟩
  have HB1 : Hid (Blk W1 g c1.toArray 35) := Lib.hid (by rw [hW1, hc1]; exact setRow_blk hB.drew _)
  rw [← hc1] at hcl0
  have hpre : c1.take ((n - 1) * 8) = xs.take (i * 8) ++ xs.drop ((i + 1) * 8) := by
    have e1 : cur.toList.take (i * 8) = xs.take (i * 8) := by rw [← htk, List.take_take]; congr 1; omega
    rw [hc1, hsize, e1, List.take_append_of_le_length (by rw [List.length_append, hnl, List.length_take, hxl]; omega)]
    exact List.take_of_length_le (by rw [List.length_append, hnl, List.length_take, hxl]; omega)
  have hcl : ∀ ty, (Builtin.clear_ #[48] ty #[.slice (some ⟨g, (i + (n - (i + 1))) * 8, none⟩) (n - (i + (n - (i + 1)))) (cap - (i + (n - (i + 1))))]).run Try.prog W1 = .ok (.tuple #[]) (W1.setRow g (over c1 ((i + (n - (i + 1))) * 8) (Builtin.zeroCells (frZ : Value).cells (n - (i + (n - (i + 1))))).toList).toArray) := fun ty =>
    run_clear_el 48 35 ty frZ under48 zero35 g _ _ _ (by omega) _ 35 HB1.out (by
      have e : c1.toArray.size = cap * 8 := by rw [List.size_toArray]; exact hcl0
      rw [e, show (frZ : Value).cells.size = 8 from rfl, ← Nat.add_mul]
      exact Nat.mul_le_mul_right _ (by omega)) (by decide)
  obtain ⟨W2, hW2⟩ : ∃ W2, W2 = W1.setRow g (over c1 ((i + (n - (i + 1))) * 8) (Builtin.zeroCells (frZ : Value).cells (n - (i + (n - (i + 1))))).toList).toArray := ⟨_, rfl⟩
  rw [← hW2] at hcl
  have HB2 : Hid (Blk W2 g (over c1 ((i + (n - (i + 1))) * 8) (Builtin.zeroCells (frZ : Value).cells (n - (i + (n - (i + 1))))).toList).toArray 35) := Lib.hid (by rw [hW2]; exact setRow_blk HB1.out _)
  have HK2 : Hid (Keep (Own.One g) w W2) := Lib.hid (by rw [hW2]; exact HK1.out.trans (setRow_keep _ _ _) (fun k hk => .inl hk))
  have HO : Hid (W2.ownsRow 0 35 8 (.slice (some ⟨g, 0, none⟩) (n - 1) cap) (n - 1) (xs.take (i * 8) ++ xs.drop ((i + 1) * 8))) := Lib.hid (by
    have hzl : (Builtin.zeroCells (frZ : Value).cells (n - (i + (n - (i + 1))))).toList.length = (n - (i + (n - (i + 1)))) * 8 := by rw [Array.length_toList, size_zeroCells]; rfl
    have hol : (over c1 ((i + (n - (i + 1))) * 8) (Builtin.zeroCells (frZ : Value).cells (n - (i + (n - (i + 1))))).toList).length = cap * 8 := by
      rw [over_length (by rw [hzl, hcl0, ← Nat.add_mul]; exact Nat.mul_le_mul_right _ (by omega)), hcl0]
    refine ⟨?_, .inr ⟨g, cap, _, rfl, Nat.zero_le _, HB2.out, by omega, hcm, by rw [List.size_toArray, hol], ?_⟩⟩
    · rw [List.length_append, hnl, List.length_take, hxl]
      omega
    · rw [← hpre]
      unfold over
      rw [show (i + (n - (i + 1))) = n - 1 by omega, List.append_assoc, List.take_append_of_le_length (by rw [List.length_take, hcl0]; omega), List.take_take]
      congr 1
      omega)
  have hic : i ≤ cap := by omega
  have hjc : i + 1 ≤ cap := by omega
  have hji : ¬ ((i : Int) = (i : Int) + 1) := by omega
  have htn : ((i : Int) + 1).toNat = i + 1 := by omega
  have hj0 : (0 : Int) ≤ (i : Int) + 1 := by omega
  have hj1 : (i : Int) + 1 ≤ (n : Int) := by omega
  have hle : ¬ cap = i + (n - (i + 1)) := by omega
  clear hxl hh htk hcs hsrc hnl hi0 hz hsize hby hW1 hcl0 hc1 hpre hW2 h1 hB
  go_enter Try.func28, Try.ntmps28
  go_wp2_with fail
  go_region_law (refine step_app_eq rfl (.tmp 22) (.tmp 25) 48 48 rfl (.slice (some ⟨g, 0, none⟩) i cap) (.slice (some A) (n - (i + 1)) (cap - (i + 1))) (by simp [Act.eval, Act.put]) (by simp [Act.eval, Act.put]) (hap _) ?_)
  go_wp2_with fail
  go_ret
  exact ⟨congrArg (fun k => Ending.returned (.slice (some ⟨g, 0, none⟩) k cap)) (show i + (n - (i + 1)) = n - 1 by omega), HO.out, HK2.out⟩
end Go.Proofs.Ytagklcmkdjgblaa.Emcy
