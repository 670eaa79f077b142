/- A scan's own calls. -/
import Derived.Test.YtcmfcnljdeddfaaNumD
import Derived.Deep.RegionLaw
namespace Go.Proofs.Ytcmfcnljdeddfaa.Num
open Go.RowKit Go.Proofs.Ytcmfcnljdeddfaa.Own Go.Proofs.Ytcmfcnljdeddfaa.Crc
structure Sc where
  asks : Int
  part : Int
  bit : Int
  K : Nat → Int
  found : Bool
  asked : Bool
  took : Int
def Sc.cells (s : Sc) : Array Value := #[.int .i64 s.asks, .int .i64 s.part, .int .i64 s.bit, .int .u32 (s.K 0), .int .u32 (s.K 1), .int .u32 (s.K 2), .int .u32 (s.K 3), .bool s.found, .bool s.asked, .int .i64 s.took]
def IsSc (w : World) (g : Nat) (s : Sc) : Prop := Blk w g s.cells 114
theorem IsSc.keep {S : Nat → Prop} {w w1 : World} {g : Nat} {s : Sc} (h : IsSc w g s) (k : Keep S w w1) (hn : ¬ S g) : IsSc w1 g s := Blk.keep h k hn
theorem ScanNew_any (w : World) : Calls Try.prog 29 #[] w fun e w' => e = .returned (.pointer (some ⟨w.heap.size, 0, none⟩)) ∧ IsSc w' w.heap.size ⟨0, 0, 31, fun _ => 0, false, false, 0⟩ ∧ Keep Own.Zero w w' := by
  go_enter Try.func29, Try.ntmps29
  go_wp2
  go_ret
  exact ⟨rfl, Blk.at_ (by simp), (Keep.refl _ _).alloc _⟩
section
variable {w : World} {ops : Array Oper} {rest : List Oper} {o : Oper} {a : Act} {K : Act → World → Prop} {Q : Exit → Act → World → Prop}
theorem wp_min (d s : Operand) (ho : o.op = .call { callee := .builtin .min, args := #[d, s], argTypes := #[3, 3] })
    (x y z : Int) (hd : a.eval d = .int .i64 x) (hs : a.eval s = .int .i64 y) (hz : (if y < x then y else x) = z) (h : K (a.put o.dst (.int .i64 z)) w) : o.wp Try.prog a w K Q := by
  unfold Oper.wp
  simp only [execOp, ho, resolve, invoke, builtin]
  simp [run_min_int2, hd, hs, hz, Result.andThen]
  exact h
theorem step_min {E : Prop} (hgd : o.guard = none) (d s : Operand) (ho : o.op = .call { callee := .builtin .min, args := #[d, s], argTypes := #[3, 3] })
    (x y z : Int) (hd : a.eval d = .int .i64 x) (hs : a.eval s = .int .i64 y) (hz : (if y < x then y else x) = z) (h : K (a.put o.dst (.int .i64 z)) w) :
    if Region.wanted o (yielded ops a.tmps) = true then Oper.wp Try.prog o a w K Q else E := by
  rw [if_pos (by simp [Region.wanted, hgd])]
  exact wp_min d s ho x y z hd hs hz h
end
/-- What it asks. -/
def Sc.asksF (s : Sc) : Fr :=
  if s.asks = 0 then { ordF 81 (s.K s.part.toNat) with b5 := 128 }
  else if s.asks = 1 then { ordF 81 (s.K s.part.toNat) with b5 := s.bit, b6 := s.part, b7 := s.part }
  else { ordF 81 (s.K s.part.toNat) with b6 := s.part, b7 := (s.part + 1) % 4 }
set_option maxRecDepth 100000 in
set_option maxHeartbeats 2000000 in
theorem Ask_any {w : World} {g : Nat} {s : Sc} (h : IsSc w g s) (ha : s.asks = 0 ∨ s.asks = 1 ∨ s.asks = 2) (h0 : 0 ≤ s.part) (h1 : s.part ≤ 3) (hb : s.asks = 1 → 0 ≤ s.bit ∧ s.bit ≤ 31) (hk : ∀ k, 0 ≤ s.K k ∧ s.K k < 4294967296) :
    Calls Try.prog 30 #[.pointer (some ⟨g, 0, none⟩)] w fun e w' => e = .returned (.tuple #[s.asksF.v, .bool true]) ∧ Hid (IsSc w' g { s with asked := true } ∧ Keep (One g) w w') := by
  have H := Lib.hid h
  have c0 : w.cell? ⟨g, 0, none⟩ = some (.int .i64 s.asks) := Blk.cell h 0
  have c1 : w.cell? ⟨g, 1, none⟩ = some (.int .i64 s.part) := Blk.cell h 1
  have c2 : w.cell? ⟨g, 2, none⟩ = some (.int .i64 s.bit) := Blk.cell h 2
  have f8 : w.frozen? ⟨g, 8, none⟩ = false := Blk.frozen h 8
  have c8 : w.cell? ⟨g, 8, none⟩ = some (.bool s.asked) := Blk.cell h 8
  have gl : g < w.heap.size := Blk.lt h
  obtain ⟨p, hp⟩ : ∃ p : Nat, s.part = p := ⟨s.part.toNat, by omega⟩
  obtain ⟨K, hK⟩ : ∃ K, K = s.K p := ⟨_, rfl⟩
  obtain ⟨K0, K1⟩ : 0 ≤ K ∧ K < 4294967296 := by rw [hK]; exact hk p
  have ck : w.cell? ⟨g, 3 + p, none⟩ = some (.int .u32 K) := by
    have e : p = 0 ∨ p = 1 ∨ p = 2 ∨ p = 3 := by omega
    rw [hK]
    rcases e with rfl | rfl | rfl | rfl <;> exact Blk.cell h _
  rw [hp] at c1 h0 h1
  have HP := Lib.hid hp
  have HKk := Lib.hid hK
  have h4 : (p : Int) < 4 := by omega
  obtain ⟨asks, has⟩ : ∃ x, x = s.asks := ⟨_, rfl⟩
  rw [← has] at c0 ha hb
  have HBt := Lib.hid hb
  have HAs := Lib.hid has
  have hn3 : (asks == 3) = false := by simp; omega
  have HGl := Lib.hid gl
  clear h hk hp hK has hb
  go_enter Try.func30, Try.ntmps30
  go_wp2_with fail
  generalize hX : World.alloc _ _ = X
  have HX : Hid (IsSc X g { s with asked := true } ∧ Keep (Own.One g) w X ∧ Blk X w.heap.size zF.cells 95) := Lib.hid (by
    rw [← hX]
    refine ⟨?_, ?_, Blk.at_ (by simp)⟩
    · apply Blk.alloc
      apply Blk.cast (H.out.set 8 (.bool true))
      simp [Sc.cells]
    · exact ((Keep.refl (Own.One g) w).set1 8 _).alloc _)
  have HXs : Hid (w.heap.size < X.heap.size) := Lib.hid HX.out.2.2.lt
  have d1 : X.cell? ⟨g, 1, none⟩ = some (.int .i64 p) := by rw [← HP.out]; exact Blk.cell HX.out.1 1
  have dk : X.cell? ⟨g, 3 + p, none⟩ = some (.int .u32 K) := by
    have e : p = 0 ∨ p = 1 ∨ p = 2 ∨ p = 3 := by omega
    rw [HKk.out]
    rcases e with rfl | rfl | rfl | rfl <;> exact Blk.cell HX.out.1 _
  have gx : g < X.heap.size := Blk.lt HX.out.1
  have hmin : (if (3 : Int) < p then (3 : Int) else p) = p := if_neg (by omega)
  have HMin := Lib.hid hmin
  clear hX c0 c1 c2 f8 c8 gl ck hmin
  go_region_law (first | (refine step_min rfl (.tmp 18) (.const (.int .i64 3)) rfl (p : Int) 3 (p : Int) rfl rfl HMin.out ?_) | (go_simp; go_at_call 28; refine (Order_any _ 81 K K0 K1).mono ?_; rintro e wk ⟨rfl, hkk⟩; unfold Fr.v Fr.cells; have HKk := Lib.hid hkk; first | (have HT : Hid (Blk wk X.heap.size #[.int .u8 0, .int .u8 0, .int .u8 0, .int .u8 0, .int .u8 0, .int .u8 0, .int .u8 0, .int .u8 0] 95) := Lib.hid (Blk.keep (by first | exact Blk.drew (Blk.at_ rfl) | exact Blk.at_ rfl) hkk.out id); have HK4 : Hid (Keep Own.Zero X wk) := Lib.hid (Keep.trans (S := Own.Zero) (by repeat (with_reducible first | exact Keep.refl _ _ | apply Keep.alloc | apply Keep.drew)) hkk.out (fun _ hi => hi.elim)); have z0 := HT.out.cell 0; have z1 := HT.out.cell 1; have z2 := HT.out.cell 2; have z3 := HT.out.cell 3; have z4 := HT.out.cell 4; have z5 := HT.out.cell 5; have z6 := HT.out.cell 6; have z7 := HT.out.cell 7; have y0 := HT.out.frozen 0; have y1 := HT.out.frozen 1; have y2 := HT.out.frozen 2; have y3 := HT.out.frozen 3; have y4 := HT.out.frozen 4; have y5 := HT.out.frozen 5; have y6 := HT.out.frozen 6; have y7 := HT.out.frozen 7; have zl := HT.out.lt; simp only [List.getElem?_toArray, List.getElem?_cons_zero, List.getElem?_cons_succ] at z0 z1 z2 z3 z4 z5 z6 z7) | (have HK4 : Hid (Keep Own.Zero X wk) := Lib.hid (Keep.trans (S := Own.Zero) (by repeat (with_reducible first | exact Keep.refl _ _ | apply Keep.alloc | apply Keep.drew)) hkk.out (fun _ hi => hi.elim)))))
  all_goals
    have HYX : Hid (IsSc wk g { s with asked := true } ∧ Keep (Own.One g) w wk ∧ Blk wk w.heap.size zF.cells 95 ∧ g < X.heap.size) := Lib.hid ⟨HX.out.1.keep HK4.out id, HX.out.2.1.trans HK4.out (fun _ hi => hi.elim), HX.out.2.2.keep HK4.out id, gx⟩
    clear hkk HKk d1 dk gx
    first
    | (have hT2 := HT.out.lt
       clear hT2
       generalize hY : World.setCell _ _ _ = Y
       have HY : Hid (IsSc Y g { s with asked := true } ∧ Keep (Own.One g) w Y ∧ Blk Y w.heap.size zF.cells 95 ∧ Blk Y X.heap.size (ordF 81 K).cells 95 ∧ g < X.heap.size ∧ w.heap.size < X.heap.size) := Lib.hid (by
         rw [← hY]
         have k8 := fun v0 v1 v2 v3 v4 v5 v6 v7 => keep8 (Keep.refl (Own.One X.heap.size) wk) (.inl rfl) v0 v1 v2 v3 v4 v5 v6 v7
         exact ⟨HYX.out.1.keep (k8 _ _ _ _ _ _ _ _) (fun e => by have e' : g = X.heap.size := e; have := HYX.out.2.2.2; omega), keep8 HYX.out.2.1 (.inr (by have := HXs.out; omega)) _ _ _ _ _ _ _ _, HYX.out.2.2.1.keep (k8 _ _ _ _ _ _ _ _) (fun e => by have e' : w.heap.size = X.heap.size := e; have := HXs.out; omega), blk8 HT.out _ _ _ _ _ _ _ _, HYX.out.2.2.2, HXs.out⟩)
       clear hY z0 z1 z2 z3 z4 z5 z6 z7 y0 y1 y2 y3 y4 y5 y6 y7 zl HT
       generalize X.heap.size = q at *)
    | (generalize hY : World.alloc wk _ = Y
       have HY : Hid (IsSc Y g { s with asked := true } ∧ Keep (Own.One g) w Y ∧ Blk Y w.heap.size zF.cells 95 ∧ Blk Y wk.heap.size (ordF 81 K).cells 95 ∧ g < wk.heap.size ∧ w.heap.size < wk.heap.size) := Lib.hid (by
         rw [← hY]
         exact ⟨Blk.alloc HYX.out.1 _, HYX.out.2.1.alloc _, HYX.out.2.2.1.alloc _, Blk.at_ rfl, Blk.lt HYX.out.1, HYX.out.2.2.1.lt⟩)
       clear hY
       generalize wk.heap.size = q at *)
    clear HYX HX HXs HK4
    have c0 : Y.cell? ⟨g, 0, none⟩ = some (.int .i64 asks) := by rw [HAs.out]; exact Blk.cell HY.out.1 0
    have c1 : Y.cell? ⟨g, 1, none⟩ = some (.int .i64 p) := by rw [← HP.out]; exact Blk.cell HY.out.1 1
    have c2 : Y.cell? ⟨g, 2, none⟩ = some (.int .i64 s.bit) := Blk.cell HY.out.1 2
    have gl : g < Y.heap.size := Blk.lt HY.out.1
    have ql : q < Y.heap.size := HY.out.2.2.2.1.lt
    have wl : w.heap.size < Y.heap.size := HY.out.2.2.1.lt
    have gq : g < q := HY.out.2.2.2.2.1
    have wq : w.heap.size < q := HY.out.2.2.2.2.2
    have glw := HGl.out
    have z0 := (HY.out.2.2.2.1).cell 0
    have z1 := (HY.out.2.2.2.1).cell 1
    have z2 := (HY.out.2.2.2.1).cell 2
    have z3 := (HY.out.2.2.2.1).cell 3
    have z4 := (HY.out.2.2.2.1).cell 4
    have z5 := (HY.out.2.2.2.1).cell 5
    have z6 := (HY.out.2.2.2.1).cell 6
    have z7 := (HY.out.2.2.2.1).cell 7
    have zf0 := (HY.out.2.2.2.1).frozen 0
    have zf1 := (HY.out.2.2.2.1).frozen 1
    have zf2 := (HY.out.2.2.2.1).frozen 2
    have zf3 := (HY.out.2.2.2.1).frozen 3
    have zf4 := (HY.out.2.2.2.1).frozen 4
    have zf5 := (HY.out.2.2.2.1).frozen 5
    have zf6 := (HY.out.2.2.2.1).frozen 6
    have zf7 := (HY.out.2.2.2.1).frozen 7
    simp only [Fr.cells, ordF, List.getElem?_toArray, List.getElem?_cons_zero, List.getElem?_cons_succ] at z0 z1 z2 z3 z4 z5 z6 z7
    have v0 := (HY.out.2.2.1).cell 0
    have v1 := (HY.out.2.2.1).cell 1
    have v2 := (HY.out.2.2.1).cell 2
    have v3 := (HY.out.2.2.1).cell 3
    have v4 := (HY.out.2.2.1).cell 4
    have v5 := (HY.out.2.2.1).cell 5
    have v6 := (HY.out.2.2.1).cell 6
    have v7 := (HY.out.2.2.1).cell 7
    have vf0 := (HY.out.2.2.1).frozen 0
    have vf1 := (HY.out.2.2.1).frozen 1
    have vf2 := (HY.out.2.2.1).frozen 2
    have vf3 := (HY.out.2.2.1).frozen 3
    have vf4 := (HY.out.2.2.1).frozen 4
    have vf5 := (HY.out.2.2.1).frozen 5
    have vf6 := (HY.out.2.2.1).frozen 6
    have vf7 := (HY.out.2.2.1).frozen 7
    simp only [zF, Fr.cells, List.getElem?_toArray, List.getElem?_cons_zero, List.getElem?_cons_succ] at v0 v1 v2 v3 v4 v5 v6 v7
    rcases ha with rfl | rfl | rfl
    · have E : Hid (s.asksF = ⟨81, K % 256, K / 256 % 256, K / 65536 % 256, K / 16777216, 128, 0, 0⟩) := Lib.hid (by
        unfold Sc.asksF
        rw [← HAs.out, if_pos rfl, HP.out, Int.toNat_natCast, ← HKk.out]
        rfl)
      go_wp2_with fail
      refine bodyPost_ret (v := .tuple #[Fr.v s.asksF, .bool true]) (results_row (p := 2) (u := 3) rfl _ _ w.heap.size s.asksF rfl (by
        rw [E.out]
        try (with_reducible apply Blk.drew)
        refine blk8 (u0 := .int .u8 0) (u1 := .int .u8 0) (u2 := .int .u8 0) (u3 := .int .u8 0) (u4 := .int .u8 0) (u5 := .int .u8 0) (u6 := .int .u8 0) (u7 := .int .u8 0) ?_ _ _ _ _ _ _ _ _
        repeat (first | (with_reducible first | apply Blk.drewN | apply Blk.drew | apply Blk.far _ (by simp; omega)) | exact HY.out.2.2.1)) _ _ rfl rfl) rfl ?_
      refine ⟨rfl, Lib.hid ⟨?_, ?_⟩⟩
      · show Blk _ g _ 114
        repeat (first | (with_reducible first | apply Blk.drewN | apply Blk.drew | apply Blk.far _ (by simp; omega)) | exact HY.out.1)
      · try (with_reducible apply Keep.drew)
        refine keep8 ?_ (.inr (Nat.le_refl _)) _ _ _ _ _ _ _ _
        repeat (first | (with_reducible first | apply Keep.drewN | apply Keep.drew | apply Keep.set _ (.inr (by simp; omega))) | exact HY.out.2.1)
    · have E : Hid (s.asksF = ⟨81, K % 256, K / 256 % 256, K / 65536 % 256, K / 16777216, s.bit, p, p⟩) := Lib.hid (by
        unfold Sc.asksF
        rw [← HAs.out, if_neg (by decide), if_pos rfl, HP.out, Int.toNat_natCast, ← HKk.out]
        rfl)
      go_wp2_with fail
      obtain ⟨hb0, hb1⟩ := HBt.out (by first | rfl | trivial)
      go_region
      all_goals
        go_wp2_with fail
        refine bodyPost_ret (v := .tuple #[Fr.v s.asksF, .bool true]) (results_row (p := 2) (u := 3) rfl _ _ w.heap.size s.asksF rfl (by
          rw [E.out]
          try (with_reducible apply Blk.drew)
          refine blk8 (u0 := .int .u8 0) (u1 := .int .u8 0) (u2 := .int .u8 0) (u3 := .int .u8 0) (u4 := .int .u8 0) (u5 := .int .u8 0) (u6 := .int .u8 0) (u7 := .int .u8 0) ?_ _ _ _ _ _ _ _ _
          repeat (first | (with_reducible first | apply Blk.drewN | apply Blk.drew | apply Blk.far _ (by simp; omega)) | exact HY.out.2.2.1)) _ _ rfl rfl) rfl ?_
        refine ⟨rfl, Lib.hid ⟨?_, ?_⟩⟩
        · show Blk _ g _ 114
          repeat (first | (with_reducible first | apply Blk.drewN | apply Blk.drew | apply Blk.far _ (by simp; omega)) | exact HY.out.1)
        · try (with_reducible apply Keep.drew)
          refine keep8 ?_ (.inr (Nat.le_refl _)) _ _ _ _ _ _ _ _
          repeat (first | (with_reducible first | apply Keep.drewN | apply Keep.drew | apply Keep.set _ (.inr (by simp; omega))) | exact HY.out.2.1)
    · have E : Hid (s.asksF = ⟨81, K % 256, K / 256 % 256, K / 65536 % 256, K / 16777216, 0, p, (p + 1) % 4⟩) := Lib.hid (by
        unfold Sc.asksF
        rw [← HAs.out, if_neg (by decide), if_neg (by decide), HP.out, Int.toNat_natCast, ← HKk.out]
        rfl)
      have hmod : ((p : Int) + 1).tmod 4 = ((p : Int) + 1) % 4 := Int.tmod_eq_emod_of_nonneg (by omega)
      obtain ⟨m, hm⟩ : ∃ m : Nat, ((p : Int) + 1) % 4 = m := ⟨(p + 1) % 4, by omega⟩
      rw [hm] at hmod
      have HM := Lib.hid hm
      have hm4 : (m : Int) < 4 := by omega
      rw [hm] at E
      clear hm
      go_wp2_with fail
      go_region
      all_goals
        go_wp2_with fail
        refine bodyPost_ret (v := .tuple #[Fr.v s.asksF, .bool true]) (results_row (p := 2) (u := 3) rfl _ _ w.heap.size s.asksF rfl (by
          rw [E.out]
          try (with_reducible apply Blk.drew)
          refine blk8 (u0 := .int .u8 0) (u1 := .int .u8 0) (u2 := .int .u8 0) (u3 := .int .u8 0) (u4 := .int .u8 0) (u5 := .int .u8 0) (u6 := .int .u8 0) (u7 := .int .u8 0) ?_ _ _ _ _ _ _ _ _
          repeat (first | (with_reducible first | apply Blk.drewN | apply Blk.drew | apply Blk.far _ (by simp; omega)) | exact HY.out.2.2.1)) _ _ rfl rfl) rfl ?_
        refine ⟨rfl, Lib.hid ⟨?_, ?_⟩⟩
        · show Blk _ g _ 114
          repeat (first | (with_reducible first | apply Blk.drewN | apply Blk.drew | apply Blk.far _ (by simp; omega)) | exact HY.out.1)
        · try (with_reducible apply Keep.drew)
          refine keep8 ?_ (.inr (Nat.le_refl _)) _ _ _ _ _ _ _ _
          repeat (first | (with_reducible first | apply Keep.drewN | apply Keep.drew | apply Keep.set _ (.inr (by simp; omega))) | exact HY.out.2.1)
end Go.Proofs.Ytcmfcnljdeddfaa.Num
