/- Frames of lss: how they are made, and their number. -/
import Derived.Test.YtcmfcnljdeddfaaOwn
import Derived.Test.YtcmfcnljdeddfaaJoins
import Derived.Laws.ResultCell
import Derived.Laws.Rows
namespace Go.Proofs.Ytcmfcnljdeddfaa.Num
open Go.RowKit Go.Proofs.Ytcmfcnljdeddfaa.Own Go.Proofs.Ytcmfcnljdeddfaa.Crc
/-- A frame's bytes. -/
structure Fr where
  c : Int
  b1 : Int
  b2 : Int
  b3 : Int
  b4 : Int
  b5 : Int
  b6 : Int
  b7 : Int
def Fr.cells (f : Fr) : Array Value := #[.int .u8 f.c, .int .u8 f.b1, .int .u8 f.b2, .int .u8 f.b3, .int .u8 f.b4, .int .u8 f.b5, .int .u8 f.b6, .int .u8 f.b7]
def Fr.v (f : Fr) : Value := .agg f.cells
structure Fr.wf (f : Fr) : Prop where
  c : 0 ≤ f.c ∧ f.c ≤ 255
  b1 : 0 ≤ f.b1 ∧ f.b1 ≤ 255
  b2 : 0 ≤ f.b2 ∧ f.b2 ≤ 255
  b3 : 0 ≤ f.b3 ∧ f.b3 ≤ 255
  b4 : 0 ≤ f.b4 ∧ f.b4 ≤ 255
  b5 : 0 ≤ f.b5 ∧ f.b5 ≤ 255
  b6 : 0 ≤ f.b6 ∧ f.b6 ≤ 255
  b7 : 0 ≤ f.b7 ∧ f.b7 ≤ 255
def Fr.num (f : Fr) : Int := f.b1 + f.b2 * 256 + f.b3 * 65536 + f.b4 * 16777216
/-- The frame of a command and a number. -/
def ordF (c n : Int) : Fr := ⟨c, n % 256, n / 256 % 256, n / 65536 % 256, n / 16777216, 0, 0, 0⟩
theorem ordF_wf {c n : Int} (h : 0 ≤ c ∧ c ≤ 255) (_n0 : 0 ≤ n) (_n1 : n < 4294967296) : (ordF c n).wf :=
  ⟨h, by simp only [ordF]; omega, by simp only [ordF]; omega, by simp only [ordF]; omega, by simp only [ordF]; omega, by simp [ordF], by simp [ordF], by simp [ordF]⟩
theorem ordF_num {c n : Int} (_n0 : 0 ≤ n) (_n1 : n < 4294967296) : (ordF c n).num = n := by
  simp only [Fr.num, ordF]
  omega
theorem under95 : Try.prog.underlying 95 = some (.array 8 5) := by kernel_rfl
theorem size95 : (Try.prog.info? 95).map (·.size) = some 8 := by kernel_rfl
theorem results_row1 {fn : Func} {p : Tmp} (h : fn.results = #[.cell p 95]) (tmps : Array Value) (w : World) (b : Nat) (f : Fr) (hp : tmps.getD p undef = .pointer (some ⟨b, 0, none⟩))
    (hb : Blk w b f.cells 95) (v : Value) (hv : v = f.v) : (results fn tmps).run Try.prog w = .ok v w := by
  subst hv
  exact results_cell_row h tmps w b 95 _ (0, 0) _ hp hb under95 rfl size95
theorem results_row {fn : Func} {p u : Tmp} (h : fn.results = #[.cell p 95, .tmp u]) (tmps : Array Value) (w : World) (b : Nat) (f : Fr) (hp : tmps.getD p undef = .pointer (some ⟨b, 0, none⟩))
    (hb : Blk w b f.cells 95) (v vu : Value) (hv : v = f.v) (hu : tmps.getD u undef = vu) :
    (results fn tmps).run Try.prog w = .ok (.tuple #[v, vu]) w := by
  subst hv hu
  have z0 := hb.cell 0
  have z1 := hb.cell 1
  have z2 := hb.cell 2
  have z3 := hb.cell 3
  have z4 := hb.cell 4
  have z5 := hb.cell 5
  have z6 := hb.cell 6
  have z7 := hb.cell 7
  simp only [Fr.cells, List.getElem?_toArray, List.getElem?_cons_zero, List.getElem?_cons_succ] at z0 z1 z2 z3 z4 z5 z6 z7
  rw [results_cell_tmp h, hp]
  simp [Fr.v, Fr.cells, go_sem, z0, z1, z2, z3, z4, z5, z6, z7]
theorem keep8 {S : Nat → Prop} {w w1 : World} {b : Nat} (h : Keep S w w1) (hb : S b ∨ w.heap.size ≤ b) (v0 v1 v2 v3 v4 v5 v6 v7 : Value) :
    Keep S w ((((((((w1.setCell ⟨b, 0, none⟩ v0).setCell ⟨b, 1, none⟩ v1).setCell ⟨b, 2, none⟩ v2).setCell ⟨b, 3, none⟩ v3).setCell ⟨b, 4, none⟩ v4).setCell ⟨b, 5, none⟩ v5).setCell ⟨b, 6, none⟩ v6).setCell ⟨b, 7, none⟩ v7) :=
  (((((((h.set hb v0).set hb v1).set hb v2).set hb v3).set hb v4).set hb v5).set hb v6).set hb v7
theorem blk8 {w : World} {b : Nat} {u0 u1 u2 u3 u4 u5 u6 u7 : Value} {T : TypeId} (h : Blk w b #[u0, u1, u2, u3, u4, u5, u6, u7] T) (v0 v1 v2 v3 v4 v5 v6 v7 : Value) :
    Blk ((((((((w.setCell ⟨b, 0, none⟩ v0).setCell ⟨b, 1, none⟩ v1).setCell ⟨b, 2, none⟩ v2).setCell ⟨b, 3, none⟩ v3).setCell ⟨b, 4, none⟩ v4).setCell ⟨b, 5, none⟩ v5).setCell ⟨b, 6, none⟩ v6).setCell ⟨b, 7, none⟩ v7) b #[v0, v1, v2, v3, v4, v5, v6, v7] T :=
  ((((((((h.set 0 v0).set 1 v1).set 2 v2).set 3 v3).set 4 v4).set 5 v5).set 6 v6).set 7 v7).cast (by simp)
theorem or_u32 (i : Nat) (x y : Int) (c : Int) (hc : c = ((2 ^ i : Nat) : Int)) (x0 : 0 ≤ x) (hx : x < c) (y0 : 0 ≤ y) (hy : y ≤ 255) (hi : i ≤ 24) : bits .or .u32 x (y * c) = x + y * c := by
  subst hc
  obtain ⟨x, rfl⟩ : ∃ n : Nat, x = n := ⟨x.toNat, by omega⟩
  obtain ⟨y, rfl⟩ : ∃ n : Nat, y = n := ⟨y.toNat, by omega⟩
  have hp : 2 ^ i ≤ 2 ^ 24 := Nat.pow_le_pow_right (by decide) hi
  have hxy : y * 2 ^ i ≤ 255 * 2 ^ 24 := Nat.mul_le_mul (by omega) hp
  have hx' : x < 2 ^ i := by omega
  rw [← Int.natCast_mul, u32_or_nat x (y * 2 ^ i) (by omega) (by omega), Nat.or_comm, nat_join i (y * 2 ^ i) x (by simp) hx']
  rw [Int.natCast_add]
  omega
set_option maxRecDepth 100000 in
set_option maxHeartbeats 1000000 in
theorem number_any (w : World) (f : Fr) (h : f.wf) : Calls Try.prog 40 #[f.v] w fun e w' => e = .returned (.int .u32 f.num) ∧ Hid (Keep Own.Zero w w') := by
  obtain ⟨c, b1, b2, b3, b4, b5, b6, b7⟩ := f
  have h1 := h.b1
  have h2 := h.b2
  have h3 := h.b3
  have h4 := h.b4
  simp only at h1 h2 h3 h4
  have o1 := or_u32 8 b1 b2 256 rfl h1.1 (by omega) h2.1 h2.2 (by decide)
  have o2 := or_u32 16 (b1 + b2 * 256) b3 65536 rfl (by omega) (by omega) h3.1 h3.2 (by decide)
  have o3 := or_u32 24 (b1 + b2 * 256 + b3 * 65536) b4 16777216 rfl (by omega) (by omega) h4.1 h4.2 (by decide)
  have HO := Lib.hid (And.intro o1 (And.intro o2 o3))
  have e : Hid (Fr.num ⟨c, b1, b2, b3, b4, b5, b6, b7⟩ = bits .or .u32 (bits .or .u32 (bits .or .u32 b1 (b2 * 256)) (b3 * 65536)) (b4 * 16777216)) := Lib.hid (by
    rw [HO.out.1, HO.out.2.1, HO.out.2.2]
    rfl)
  clear o1 o2 o3 h
  simp only [Fr.v, Fr.cells]
  go_enter Try.func40, Try.ntmps40
  go_wp2_with fail
  go_ret
  refine ⟨?_, Lib.hid ((Keep.refl _ _).alloc _)⟩
  rw [e.out]
  rfl
set_option maxRecDepth 100000 in
set_option maxHeartbeats 1000000 in
theorem order_any (w : World) (c n : Int) (n0 : 0 ≤ n) (n1 : n < 4294967296) : Calls Try.prog 36 #[.int .u8 c, .int .u32 n] w fun e w' => e = .returned (ordF c n).v ∧ Hid (Keep Own.Zero w w') := by
  go_enter Try.func36, Try.ntmps36
  go_wp2_with fail
  refine bodyPost_ret (v := (ordF c n).v) (results_row1 (p := 4) rfl _ _ w.heap.size (ordF c n) rfl (by
    apply Blk.cast
    · repeat (first | exact Blk.new _ _ _ | (with_reducible apply Blk.set))
    · simp [Fr.cells, ordF]) _ rfl) rfl ?_
  exact ⟨rfl, Lib.hid (by repeat (first | exact Keep.refl _ _ | apply Keep.alloc | apply Keep.set _ (.inr (by simp)) | apply Keep.drewN))⟩
set_option maxRecDepth 100000 in
set_option maxHeartbeats 1000000 in
theorem Order_any (w : World) (c n : Int) (n0 : 0 ≤ n) (n1 : n < 4294967296) : Calls Try.prog 28 #[.int .u8 c, .int .u32 n] w fun e w' => e = .returned (ordF c n).v ∧ Hid (Keep Own.Zero w w') := by
  go_enter Try.func28, Try.ntmps28
  go_wp2_with fail
  refine (order_any _ c n n0 n1).mono ?_
  rintro e w1 ⟨rfl, hk⟩
  have HB : Hid (Blk w1 w.heap.size #[.int .u8 0, .int .u8 0, .int .u8 0, .int .u8 0, .int .u8 0, .int .u8 0, .int .u8 0, .int .u8 0] 95) := Lib.hid (Blk.keep (Blk.new w _ _) hk.out id)
  have HK := Lib.hid ((Keep.refl Own.Zero w).alloc (.cells #[.int .u8 0, .int .u8 0, .int .u8 0, .int .u8 0, .int .u8 0, .int .u8 0, .int .u8 0, .int .u8 0] 95) |>.trans hk.out (fun _ hi => hi.elim))
  clear hk
  have z0 := (HB.out).cell 0
  have z1 := (HB.out).cell 1
  have z2 := (HB.out).cell 2
  have z3 := (HB.out).cell 3
  have z4 := (HB.out).cell 4
  have z5 := (HB.out).cell 5
  have z6 := (HB.out).cell 6
  have z7 := (HB.out).cell 7
  have zf0 := (HB.out).frozen 0
  have zf1 := (HB.out).frozen 1
  have zf2 := (HB.out).frozen 2
  have zf3 := (HB.out).frozen 3
  have zf4 := (HB.out).frozen 4
  have zf5 := (HB.out).frozen 5
  have zf6 := (HB.out).frozen 6
  have zf7 := (HB.out).frozen 7
  simp only [List.getElem?_toArray, List.getElem?_cons_zero, List.getElem?_cons_succ] at z0 z1 z2 z3 z4 z5 z6 z7
  have l1 := HB.out.lt
  simp only [Fr.v, Fr.cells]
  go_wp2_with fail
  refine bodyPost_ret (v := (ordF c n).v) (results_row1 (p := 4) rfl _ _ w.heap.size (ordF c n) rfl (blk8 HB.out _ _ _ _ _ _ _ _) _ rfl) rfl ?_
  exact ⟨rfl, Lib.hid (keep8 HK.out (.inr (Nat.le_refl _)) _ _ _ _ _ _ _ _)⟩
set_option maxRecDepth 100000 in
set_option maxHeartbeats 1000000 in
theorem told_any (w : World) (c n : Int) (n0 : 0 ≤ n) (n1 : n < 4294967296) : Calls Try.prog 43 #[.int .u8 c, .int .i64 n] w fun e w' => e = .returned (.tuple #[(ordF c n).v, .bool true]) ∧ Hid (Keep Own.Zero w w') := by
  go_enter Try.func43, Try.ntmps43
  go_wp2_with fail
  refine (order_any _ c n n0 n1).mono ?_
  rintro e w1 ⟨rfl, hk⟩
  have HB : Hid (Blk w1 w.heap.size #[.int .u8 0, .int .u8 0, .int .u8 0, .int .u8 0, .int .u8 0, .int .u8 0, .int .u8 0, .int .u8 0] 95) := Lib.hid (Blk.keep (Blk.new w _ _) hk.out id)
  have HK := Lib.hid ((Keep.refl Own.Zero w).alloc (.cells #[.int .u8 0, .int .u8 0, .int .u8 0, .int .u8 0, .int .u8 0, .int .u8 0, .int .u8 0, .int .u8 0] 95) |>.trans hk.out (fun _ hi => hi.elim))
  clear hk
  have z0 := (HB.out).cell 0
  have z1 := (HB.out).cell 1
  have z2 := (HB.out).cell 2
  have z3 := (HB.out).cell 3
  have z4 := (HB.out).cell 4
  have z5 := (HB.out).cell 5
  have z6 := (HB.out).cell 6
  have z7 := (HB.out).cell 7
  have zf0 := (HB.out).frozen 0
  have zf1 := (HB.out).frozen 1
  have zf2 := (HB.out).frozen 2
  have zf3 := (HB.out).frozen 3
  have zf4 := (HB.out).frozen 4
  have zf5 := (HB.out).frozen 5
  have zf6 := (HB.out).frozen 6
  have zf7 := (HB.out).frozen 7
  simp only [List.getElem?_toArray, List.getElem?_cons_zero, List.getElem?_cons_succ] at z0 z1 z2 z3 z4 z5 z6 z7
  have l1 := HB.out.lt
  simp only [Fr.v, Fr.cells]
  go_wp2_with fail
  refine bodyPost_ret (v := .tuple #[(ordF c n).v, .bool true]) (results_row (p := 4) (u := 5) rfl _ _ w.heap.size (ordF c n) rfl (blk8 HB.out _ _ _ _ _ _ _ _) _ _ rfl rfl) rfl ?_
  exact ⟨rfl, Lib.hid (keep8 HK.out (.inr (Nat.le_refl _)) _ _ _ _ _ _ _ _)⟩
end Go.Proofs.Ytcmfcnljdeddfaa.Num
