/- What slices.Insert of one element at the head comes to. -/
import Derived.Test.YtagklcmkdjgblaaEmcyC
namespace Go.Proofs.Ytagklcmkdjgblaa.Emcy
open Go.RowKit Go.Proofs.Ytagklcmkdjgblaa.Own
theorem sizeOf33 : ∀ w, (Go.sizeOf 33).run Try.prog w = .ok 7 w := by
  obtain ⟨i, hi, hz, hs, _⟩ := info_parts info33
  intro w
  simp [Go.sizeOf, typeInfo, hi, hs]
theorem shape_of {w : World} {g : Nat} {cs : Array Value} {T : TypeId} (h : Blk w g cs T) : w.shape? g = some (T, cs.size) := by
  unfold Blk at h
  simp [World.shape?, h]
def InsPost (w : World) (v : Value) (n : Nat) (xs : List Value) (e : Ending) (w' : World) : Prop :=
  ∃ A c, e = .returned (.slice A n c) ∧ w'.ownsRow 0 33 7 (.slice A n c) n xs ∧ Fresh w v (.slice A n c) ∧ w.grownBy w' v.ownBlock
theorem own_slice {w : World} {e : TypeId} {s n : Nat} {v : Value} {xs : List Value} (h : w.ownsRow 0 e s v n xs) : ∃ A c, v = .slice A n c := by
  obtain ⟨_, ⟨rfl, rfl⟩ | ⟨g, cap, cur, rfl, _⟩⟩ := h
  · exact ⟨none, 0, rfl⟩
  · exact ⟨_, _, rfl⟩
set_option maxRecDepth 100000 in
set_option maxHeartbeats 4000000 in
theorem Insert_none {w : World} {v : Value} (hv : w.ownsRow 0 33 7 v 0 []) (t : Tr) (h : Nat) (hh : Blk w h t.cells.toArray 33) :
    Calls Try.prog 25 #[v, .int .i64 0, .slice (some ⟨h, 0, none⟩) 1 1] w (InsPost w v 1 t.cells) := by
  obtain ⟨A, c, rfl⟩ := own_slice hv
  have HV := Lib.hid hv
  have HR : Hid (Row w (some ⟨h, 0, none⟩) t.cells) := Lib.hid (Row.blk hh (fun i v hi => by simpa using hi))
  clear hv hh
  rcases A with _ | ⟨g, o, s⟩
  all_goals
    go_enter Try.func25, Try.ntmps25
    go_wp2_with (at_builtin; refine appF rfl (.tmp 23) (.tmp 24) 22 rfl 33 trZ 7 8 under22 info33 rfl (by decide) _ 0 [] rfl HV.out ⟨h, 0, none⟩ 1 1 t.cells rfl rfl HR.out (cells_one t) (by unfold maxLen; omega) (by omega) ?_; intro v' w' hown hgr hfr)
    obtain ⟨A', c', rfl⟩ := own_slice hown
    go_wp2_with fail
    go_ret
    exact ⟨A', c', rfl, hown, hfr, hgr⟩
set_option maxRecDepth 100000 in
set_option maxHeartbeats 4000000 in
theorem Insert_room {w : World} (g cap n : Nat) (xs : List Value) (hn0 : 0 < n) (hn : n ≤ 1000000000000000) (hv : w.ownsRow 0 33 7 (.slice (some ⟨g, 0, none⟩) n cap) n xs) (h1 : ∀ u ∈ xs, u.oneCell' = true) (hroom : n + 1 ≤ cap) (t : Tr) (h : Nat) (hh : Blk w h t.cells.toArray 33) (hne : h ≠ g) :
    Calls Try.prog 25 #[.slice (some ⟨g, 0, none⟩) n cap, .int .i64 0, .slice (some ⟨h, 0, none⟩) 1 1] w (InsPost w (.slice (some ⟨g, 0, none⟩) n cap) (n + 1) (t.cells ++ xs)) := by
  obtain ⟨hxl, ⟨hv, _⟩ | ⟨g', cap', cur, hv, _, hb, hnc, hcm, hcs, htk⟩⟩ := hv
  · cases hv
  simp only [Value.slice.injEq, Option.some.injEq, Addr.mk.injEq, and_true, true_and] at hv
  obtain ⟨rfl, rfl⟩ := hv
  have hB : Blk w g cur 33 := hb
  have hsz7 : (Try.prog.info? 33).map (·.size) = some 7 := by
    obtain ⟨i, hi, _, hs, _⟩ := info_parts info33
    simp [hi, hs]
  have hov : ∀ lb cb, (callFunc 35 #[.slice (some ⟨h, 0, none⟩) 1 1, .slice (some ⟨g, 7, none⟩) lb cb]).run Try.prog w = .ok (.value (.bool false)) w := fun lb cb => by
    rw [run_callFunc_extern Try.func35 (by kernel_rfl) (by kernel_rfl) (by kernel_rfl) (e := Extern.SlicesOverlaps.overlaps #[22, 22] #[4]) (by kernel_rfl),
      Lib.run_overlaps_apart w 22 4 33 under22 7 sizeOf33 ⟨h, 0, none⟩ ⟨g, 7, none⟩ 1 1 lb cb hne 33 33 _ _ (shape_of hh) (shape_of hB) (by rw [hcs]; omega) (hh.frozen 0) (hh.frozen _)]
    rfl
  have hxr : Row w.drew (some ⟨g, 0, none⟩) xs := Row.blk hB.drew (fun i v hi => by
    rw [← htk, List.getElem?_take] at hi
    split at hi
    · rwa [Array.getElem?_toList] at hi
    · cases hi)
  have hcp1 : ∀ ty dc sc, (Builtin.copy_ #[22, 22] ty #[.slice (some ⟨g, 7, none⟩) n dc, .slice (some ⟨g, 0, none⟩) (n + 1) sc]).run Try.prog w.drew = .ok (goInt (Nat.min (n + 1) n)) (w.drew.setRow g (over cur.toList 7 xs).toArray) := fun ty dc sc =>
    run_copy_el 22 ty 33 7 under22 hsz7 g 7 n dc ⟨g, 0, none⟩ (n + 1) sc cur 33 xs hB.drew (by rw [hxl, show Nat.min (n + 1) n = n from Nat.min_eq_right (by omega)]) hxr (by rw [hxl, hcs]; omega) h1
  obtain ⟨W1, hW1⟩ : ∃ W1, W1 = w.drew.setRow g (over cur.toList 7 xs).toArray := ⟨_, rfl⟩
  rw [← hW1] at hcp1
  have hol : (over cur.toList 7 xs).length = cap * 7 := by rw [over_length (by rw [hxl, Array.length_toList, hcs]; omega), Array.length_toList, hcs]
  have hos : (over cur.toList 7 xs).toArray.size = cap * 7 := by rw [List.size_toArray]; exact hol
  have HB1 : Hid (Blk W1 g (over cur.toList 7 xs).toArray 33) := Lib.hid (by rw [hW1]; exact setRow_blk hB.drew _)
  have HK1 : Hid (Keep (Own.One g) w W1) := Lib.hid (by rw [hW1]; exact (Keep.refl _ w).drew.trans (setRow_keep _ _ _) (fun k hk => .inl hk))
  have hh1 : Blk W1 h t.cells.toArray 33 := hh.keep HK1.out (fun e => hne e)
  have hcp2 : ∀ ty dc, (Builtin.copy_ #[22, 22] ty #[.slice (some ⟨g, 0, none⟩) (n + 1) dc, .slice (some ⟨h, 0, none⟩) 1 1]).run Try.prog W1 = .ok (goInt (Nat.min 1 (n + 1))) (W1.setRow g (over (over cur.toList 7 xs) 0 t.cells).toArray) := fun ty dc =>
    run_copy_el 22 ty 33 7 under22 hsz7 g 0 (n + 1) dc ⟨h, 0, none⟩ 1 1 (over cur.toList 7 xs).toArray 33 t.cells HB1.out (by rw [show Nat.min 1 (n + 1) = 1 from Nat.min_eq_left (by omega)]; rfl) (Row.blk hh1 (fun i v hi => by simpa using hi)) (by rw [hos, Tr.cells_length]; omega) (cells_one t)
  obtain ⟨W2, hW2⟩ : ∃ W2, W2 = W1.setRow g (over (over cur.toList 7 xs) 0 t.cells).toArray := ⟨_, rfl⟩
  rw [← hW2] at hcp2
  have HB2 : Hid (Blk W2 g (over (over cur.toList 7 xs) 0 t.cells).toArray 33) := Lib.hid (by rw [hW2]; exact setRow_blk HB1.out _)
  have HK2 : Hid (Keep (Own.One g) w W2) := Lib.hid (by rw [hW2]; exact HK1.out.trans (setRow_keep _ _ _) (fun k hk => .inl hk))
  have HO : Hid (W2.ownsRow 0 33 7 (.slice (some ⟨g, 0, none⟩) (n + 1) cap) (n + 1) (t.cells ++ xs)) := Lib.hid (by
    refine ⟨by rw [List.length_append, hxl, Tr.cells_length]; omega, .inr ⟨g, cap, _, rfl, Nat.zero_le _, HB2.out, hroom, hcm, ?_, ?_⟩⟩
    · rw [List.size_toArray, over_length (by rw [hol, Tr.cells_length]; omega), hol]
    · unfold over
      simp only [List.take_zero, List.nil_append, Tr.cells_length]
      rw [List.take_append, Tr.cells_length, List.take_of_length_le (by rw [Tr.cells_length]; omega)]
      congr 1
      rw [show (n + 1) * 7 - 7 = n * 7 by omega, List.append_assoc, List.drop_append, List.drop_of_length_le (by rw [List.length_take, Array.length_toList, hcs]; omega), List.nil_append, List.length_take, Array.length_toList, hcs, show 0 + 7 - min 7 (cap * 7) = 0 by omega, List.drop_zero, ← hxl, List.take_left])
  have hG : w.grownBy W2 (some g) := ⟨HK2.out.os, HK2.out.tape, HK2.out.output, HK2.out.size, fun k hk hn => HK2.out.block k hk (fun e => hn (by rw [e]))⟩
  have HGr := Lib.hid hG
  have hin : 1 ≤ n := by omega
  have hw1 : IntKind.i64.wrap 1 = 1 := by decide
  have hn1 : (1 : Int) ≤ (n : Int) + 1 := by omega
  have hn2 : (0 : Int) ≤ (n : Int) + 1 := by omega
  have hz2 : ¬ ((0 : Int) = (n : Int)) := by omega
  have hb1 : ¬ cap = 1 := by omega
  have hb0 : ¬ cap = 0 := by omega
  have hb3 : ¬ (cap : Int) < (n : Int) + 1 := by omega
  clear hxl hb htk hcs hxr hol hos hW1 hW2 hh1 h1 hh hG hsz7 hB hne
  go_enter Try.func25, Try.ntmps25
  go_wp2_with (simp only [hov])
  go_region_law (refine step_copy_eq rfl (.tmp 73) (.tmp 76) 22 22 rfl _ _ (by simp [Act.eval, Act.put]) (by simp [Act.eval, Act.put]) (hcp1 _ _ _) ?_)
  go_wp2_with (with_reducible refine list_copy_eq rfl (.tmp 80) (.tmp 81) 22 22 rfl _ _ rfl rfl (hcp2 _ _) ?_)
  go_ret
  exact ⟨_, _, rfl, HO.out, fun k hk => .inl hk, HGr.out⟩
set_option maxRecDepth 100000 in
set_option maxHeartbeats 4000000 in
theorem Insert_grow {w : World} (g cap n : Nat) (xs : List Value) (hn0 : 0 < n) (hn : n + 1 ≤ 17592186044416) (hv : w.ownsRow 0 33 7 (.slice (some ⟨g, 0, none⟩) n cap) n xs) (h1 : ∀ u ∈ xs, u.oneCell' = true) (hroom : cap < n + 1) (t : Tr) (h : Nat) (hh : Blk w h t.cells.toArray 33) :
    Calls Try.prog 25 #[.slice (some ⟨g, 0, none⟩) n cap, .int .i64 0, .slice (some ⟨h, 0, none⟩) 1 1] w (InsPost w (.slice (some ⟨g, 0, none⟩) n cap) (n + 1) (t.cells ++ xs)) := by
  obtain ⟨hxl, ⟨hv, _⟩ | ⟨g', cap', cur, hv, _, hb, hnc, hcm, hcs, htk⟩⟩ := hv
  · cases hv
  simp only [Value.slice.injEq, Option.some.injEq, Addr.mk.injEq, and_true, true_and] at hv
  obtain ⟨rfl, rfl⟩ := hv
  have hB : Blk w g cur 33 := hb
  obtain ⟨ii, hi0, hz, hsize, hby⟩ := info_parts info33
  have hsz7 : (Try.prog.info? 33).map (·.size) = some 7 := by simp [hi0, hsize]
  obtain ⟨C, hC⟩ : ∃ C, C = grownCap w (n + 1) cap 33 := ⟨_, rfl⟩
  have hCn : n + 1 ≤ C := by rw [hC]; exact grownCap_ge w _ _ _
  have hC63 : C ≤ maxLen := by rw [hC]; exact grownCap_le_maxLen w _ _ _ (by unfold maxLen; omega)
  have hap : ∀ ty, (Builtin.append_ #[22, 3] ty #[.slice (some ⟨g, 0, none⟩) 0 cap, .int .i64 ((n : Int) + 1)]).run Try.prog w = .ok (.slice (some ⟨w.heap.size, 0, none⟩) (n + 1) C) (w.drew.alloc (.cells (#[] ++ Builtin.zeroCells trZ.cells (n + 1) ++ Builtin.zeroCells trZ.cells (C - (n + 1))) 33)) := fun ty => by
    have h := Lib.run_append_grow_zeros w 22 3 ty 33 ii trZ .i64 .i64 under22 Try.underlying3 hi0 hz (some ⟨g, 0, none⟩) 0 cap [] (by
      have := run_firstCells_some (P := Try.prog) w.drew ii.size 0 ⟨g, 0, none⟩ 0 cap [] (by simp) (fun j v hj => by simp at hj)
      exact this) (n + 1) (by omega) (by omega) (by omega) (by omega) (by rw [hby]; omega) (by rw [hby, Nat.zero_add]; exact growslice_fits hroom (by omega))
    rw [Nat.zero_add, ← hC] at h
    exact h
  obtain ⟨z, hzz⟩ : ∃ z : Array Value, z = #[] ++ Builtin.zeroCells trZ.cells (n + 1) ++ Builtin.zeroCells trZ.cells (C - (n + 1)) := ⟨_, rfl⟩
  rw [← hzz] at hap
  have hzl : z.size = C * 7 := by
    rw [hzz, Array.size_append, Array.size_append, size_zeroCells, size_zeroCells, show trZ.cells.size = 7 from rfl]
    simp
    omega
  obtain ⟨W1, hW1⟩ : ∃ W1, W1 = w.drew.alloc (.cells z 33) := ⟨_, rfl⟩
  rw [← hW1] at hap
  have HB1 : Hid (Blk W1 w.heap.size z 33) := Lib.hid (by rw [hW1]; exact Blk.new w.drew z 33)
  have HK1 : Hid (Keep (Own.One w.heap.size) w W1) := Lib.hid (by rw [hW1]; exact (Keep.refl _ w).drew.alloc _)
  have hh1 : Blk W1 h t.cells.toArray 33 := hh.keep HK1.out (fun e => by have := hh.lt; have e' : h = w.heap.size := e; omega)
  have hcp1 : ∀ ty dc, (Builtin.copy_ #[22, 22] ty #[.slice (some ⟨w.heap.size, 0, none⟩) (n + 1) dc, .slice (some ⟨h, 0, none⟩) 1 1]).run Try.prog W1 = .ok (goInt (Nat.min 1 (n + 1))) (W1.setRow w.heap.size (over z.toList 0 t.cells).toArray) := fun ty dc =>
    run_copy_el 22 ty 33 7 under22 hsz7 w.heap.size 0 (n + 1) dc ⟨h, 0, none⟩ 1 1 z 33 t.cells HB1.out (by rw [show Nat.min 1 (n + 1) = 1 from Nat.min_eq_left (by omega)]; rfl) (Row.blk hh1 (fun i v hi => by simpa using hi)) (by rw [hzl, Tr.cells_length]; omega) (cells_one t)
  obtain ⟨W2, hW2⟩ : ∃ W2, W2 = W1.setRow w.heap.size (over z.toList 0 t.cells).toArray := ⟨_, rfl⟩
  rw [← hW2] at hcp1
  have hzt : z.toList.length = C * 7 := by rw [Array.length_toList]; exact hzl
  have hol : (over z.toList 0 t.cells).length = C * 7 := by rw [over_length (by rw [hzt, Tr.cells_length]; omega), hzt]
  have hos : (over z.toList 0 t.cells).toArray.size = C * 7 := by rw [List.size_toArray]; exact hol
  have HB2 : Hid (Blk W2 w.heap.size (over z.toList 0 t.cells).toArray 33) := Lib.hid (by rw [hW2]; exact setRow_blk HB1.out _)
  have HK2 : Hid (Keep (Own.One w.heap.size) w W2) := Lib.hid (by rw [hW2]; exact HK1.out.trans (setRow_keep _ _ _) (fun k hk => .inl hk))
  have hB2 : Blk W2 g cur 33 := hB.keep HK2.out (fun e => by have := hB.lt; have e' : g = w.heap.size := e; omega)
  have hxr : Row W2.drew (some ⟨g, 0, none⟩) xs := Row.blk hB2.drew (fun i v hi => by
    rw [← htk, List.getElem?_take] at hi
    split at hi
    · rwa [Array.getElem?_toList] at hi
    · cases hi)
  have hcp2 : ∀ ty dc sc, (Builtin.copy_ #[22, 22] ty #[.slice (some ⟨w.heap.size, 7, none⟩) n dc, .slice (some ⟨g, 0, none⟩) n sc]).run Try.prog W2.drew = .ok (goInt (Nat.min n n)) (W2.drew.setRow w.heap.size (over (over z.toList 0 t.cells) 7 xs).toArray) := fun ty dc sc =>
    run_copy_el 22 ty 33 7 under22 hsz7 w.heap.size 7 n dc ⟨g, 0, none⟩ n sc (over z.toList 0 t.cells).toArray 33 xs HB2.out.drew (by rw [hxl, show Nat.min n n = n from Nat.min_self n]) hxr (by rw [hos, hxl]; omega) h1
  obtain ⟨W3, hW3⟩ : ∃ W3, W3 = W2.drew.setRow w.heap.size (over (over z.toList 0 t.cells) 7 xs).toArray := ⟨_, rfl⟩
  rw [← hW3] at hcp2
  have HB3 : Hid (Blk W3 w.heap.size (over (over z.toList 0 t.cells) 7 xs).toArray 33) := Lib.hid (by rw [hW3]; exact setRow_blk HB2.out.drew _)
  have HK3 : Hid (Keep (Own.One w.heap.size) w W3) := Lib.hid (by rw [hW3]; exact (HK2.out.drew).trans (setRow_keep _ _ _) (fun k hk => .inl hk))
  have HO : Hid (W3.ownsRow 0 33 7 (.slice (some ⟨w.heap.size, 0, none⟩) (n + 1) C) (n + 1) (t.cells ++ xs)) := Lib.hid (by
    refine ⟨by rw [List.length_append, hxl, Tr.cells_length]; omega, .inr ⟨w.heap.size, C, _, rfl, Nat.zero_le _, HB3.out, hCn, hC63, ?_, ?_⟩⟩
    · rw [List.size_toArray, over_length (by rw [hol, hxl]; omega), hol]
    · unfold over
      simp only [List.take_zero, List.nil_append, Tr.cells_length]
      rw [List.take_append_of_le_length (l₁ := t.cells) (by rw [Tr.cells_length]; omega), List.take_of_length_le (l := t.cells) (by rw [Tr.cells_length]; omega), List.take_append_of_le_length (by rw [List.length_append, hxl, Tr.cells_length]; omega)]
      exact List.take_of_length_le (by rw [List.length_append, hxl, Tr.cells_length]; omega))
  have hG : w.grownBy W3 (some g) := ⟨HK3.out.os, HK3.out.tape, HK3.out.output, HK3.out.size, fun k hk hn => HK3.out.block k hk (fun e => by have e' : k = w.heap.size := e; omega)⟩
  have HGr := Lib.hid hG
  have hin : 1 ≤ n := by omega
  have hz2 : ¬ ((0 : Int) = (n : Int)) := by omega
  have hw1 : IntKind.i64.wrap 1 = 1 := by decide
  have hn1 : (1 : Int) ≤ (n : Int) + 1 := by omega
  have hn2 : (0 : Int) ≤ (n : Int) + 1 := by omega
  have hb1 : ¬ C = 1 := by omega
  have hb4 : ¬ C = 0 := by omega
  have hb0 : ¬ cap = 0 := by omega
  have hb3 : (cap : Int) < (n : Int) + 1 := by omega
  have hCi : C ≤ 9223372036854775807 := hC63
  have hcpi : cap ≤ 9223372036854775807 := hcm
  clear hxl hb htk hcs hxr hol hos hW1 hW2 hW3 hh1 h1 hh hG hsz7 hB hB2 hC hzl hzt hzz hi0 hz hsize hby
  go_enter Try.func25, Try.ntmps25
  go_wp2_with (first | (at_builtin; refine Lib.wpList_append_run _ rfl (.tmp 34) (.tmp 39) 22 3 rfl _ _ rfl rfl _ _ (hap _) ?_) | (with_reducible refine list_copy_eq rfl (.tmp 43) (.tmp 44) 22 22 rfl _ _ rfl rfl (hcp1 _ _) ?_))
  go_region_law (refine step_copy_eq rfl (.tmp 50) (.tmp 53) 22 22 rfl _ _ (by simp [Act.eval, Act.put]) (by simp [Act.eval, Act.put]) (hcp2 _ _ _) ?_)
  go_wp2_with fail
  go_ret
  exact ⟨_, _, rfl, HO.out, fun k hk => .inr (by simp only [Value.ownBlock, Option.some.injEq] at hk; omega), HGr.out⟩
theorem Insert_any {w : World} {v : Value} {n : Nat} {xs : List Value} (hn : n + 1 ≤ 17592186044416) (hv : w.ownsRow 0 33 7 v n xs) (h1 : ∀ u ∈ xs, u.oneCell' = true) (t : Tr) (h : Nat) (hh : Blk w h t.cells.toArray 33) (hne : v.ownBlock ≠ some h) :
    Calls Try.prog 25 #[v, .int .i64 0, .slice (some ⟨h, 0, none⟩) 1 1] w (InsPost w v (n + 1) (t.cells ++ xs)) := by
  rcases Nat.eq_zero_or_pos n with rfl | hp
  · obtain rfl : xs = [] := List.eq_nil_of_length_eq_zero (by simpa using hv.1)
    rw [List.append_nil]
    exact Insert_none hv t h hh
  · obtain ⟨_, ⟨_, h0⟩ | ⟨g, cap, cur, rfl, _⟩⟩ := id hv
    · omega
    · by_cases hc : n + 1 ≤ cap
      · exact Insert_room g cap n xs hp (by omega) hv h1 hc t h hh (fun e => hne (by simp [Value.ownBlock, e]))
      · exact Insert_grow g cap n xs hp hn hv h1 (by omega) t h hh
end Go.Proofs.Ytagklcmkdjgblaa.Emcy
