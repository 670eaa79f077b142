/- A scan's Answer. -/
import Derived.Test.YtcmfcnljdeddfaaNumE
namespace Go.Proofs.Ytcmfcnljdeddfaa.Num
open Go.RowKit Go.Proofs.Ytcmfcnljdeddfaa.Own Go.Proofs.Ytcmfcnljdeddfaa.Crc
set_option maxRecDepth 100000 in
set_option maxHeartbeats 2000000 in
theorem Ask_over {w : World} {g : Nat} {s : Sc} (h : IsSc w g s) (ha : s.asks = 3) :
    Calls Try.prog 30 #[.pointer (some ⟨g, 0, none⟩)] w fun e w' => e = .returned (.tuple #[zF.v, .bool false]) ∧ Hid (IsSc w' g s ∧ Keep Own.Zero w w') := by
  have H := Lib.hid h
  have c0 : w.cell? ⟨g, 0, none⟩ = some (.int .i64 s.asks) := Blk.cell h 0
  have gl : g < w.heap.size := Blk.lt h
  rw [ha] at c0
  clear h ha
  go_enter Try.func30, Try.ntmps30
  go_wp2_with fail
  refine bodyPost_ret (v := .tuple #[Fr.v zF, .bool false]) (results_row (p := 2) (u := 3) rfl _ _ w.heap.size zF rfl (Blk.at_ (by simp)) _ _ rfl rfl) rfl ?_
  exact ⟨rfl, Lib.hid ⟨Blk.alloc H.out _, (Keep.refl _ _).alloc _⟩⟩
theorem or_bit (K : Int) (b : Nat) (hb : b ≤ 31) (k0 : 0 ≤ K) (k1 : K < 4294967296) (hk : K % 2 ^ (b + 1) = 0) : bits .or .u32 K (2 ^ b % 4294967296) = K + 2 ^ b := by
  have hp : (2 : Nat) ^ b ≤ 2 ^ 31 := Nat.pow_le_pow_right (by decide) hb
  have e1 : ((2 : Int) ^ b) = ((2 ^ b : Nat) : Int) := by simp
  have e2 : ((2 : Int) ^ (b + 1)) = ((2 ^ (b + 1) : Nat) : Int) := by simp
  obtain ⟨k, rfl⟩ : ∃ k : Nat, K = k := ⟨K.toNat, by omega⟩
  rw [e2] at hk
  have hk2 : k % 2 ^ (b + 1) = 0 := by omega
  rw [e1, Int.emod_eq_of_lt (by omega) (by omega), u32_or_nat k (2 ^ b) (by omega) (by omega), nat_join (b + 1) k (2 ^ b) hk2 (Nat.pow_lt_pow_right (by decide) (Nat.lt_succ_self b))]
  omega
def AnswerPost (w : World) (g : Nat) (s : Sc) (e : Ending) (w' : World) : Prop := e = .returned (.tuple #[]) ∧ IsSc w' g s ∧ Keep (One g) w w'
set_option maxRecDepth 100000 in
set_option maxHeartbeats 2000000 in
theorem Answer_no {w : World} {g : Nat} {s : Sc} (h : IsSc w g s) (hq : s.asked = true) (ha : s.asks = 0 ∨ s.asks = 2) (t0 : 0 ≤ s.took) (t1 : s.took ≤ 1000) :
    Calls Try.prog 34 #[.pointer (some ⟨g, 0, none⟩), .bool false] w (AnswerPost w g { s with asks := 3, asked := false, took := s.took + 1 }) := by
  have H := Lib.hid h
  have c0 : w.cell? ⟨g, 0, none⟩ = some (.int .i64 s.asks) := Blk.cell h 0
  have c1 : w.cell? ⟨g, 1, none⟩ = some (.int .i64 s.part) := Blk.cell h 1
  have c2 : w.cell? ⟨g, 2, none⟩ = some (.int .i64 s.bit) := Blk.cell h 2
  have c7 : w.cell? ⟨g, 7, none⟩ = some (.bool s.found) := Blk.cell h 7
  have c8 : w.cell? ⟨g, 8, none⟩ = some (.bool s.asked) := Blk.cell h 8
  have c9 : w.cell? ⟨g, 9, none⟩ = some (.int .i64 s.took) := Blk.cell h 9
  have f0 : w.frozen? ⟨g, 0, none⟩ = false := Blk.frozen h 0
  have f1 : w.frozen? ⟨g, 1, none⟩ = false := Blk.frozen h 1
  have f2 : w.frozen? ⟨g, 2, none⟩ = false := Blk.frozen h 2
  have f7 : w.frozen? ⟨g, 7, none⟩ = false := Blk.frozen h 7
  have f8 : w.frozen? ⟨g, 8, none⟩ = false := Blk.frozen h 8
  have f9 : w.frozen? ⟨g, 9, none⟩ = false := Blk.frozen h 9
  have gl : g < w.heap.size := Blk.lt h
  rw [hq] at c8
  have hb : (s.asks == 1) = false := by simp; omega
  clear h hq ha
  unfold AnswerPost
  go_enter Try.func34, Try.ntmps34
  go_wp2_with fail
  go_end0
  refine ⟨rfl, ?_, ?_⟩
  · show Blk _ g _ 114
    apply Blk.cast
    · repeat (first | (with_reducible first | apply Blk.set | apply Blk.drewN | apply Blk.drew) | exact H.out)
    · first | (simp [Sc.cells]; done) | simp [Sc.cells, HA.out]
  · repeat (with_reducible first | exact Keep.refl _ _ | apply Keep.set1 | apply Keep.drewN | apply Keep.drew)
set_option maxRecDepth 100000 in
set_option maxHeartbeats 2000000 in
theorem Answer_0 {w : World} {g : Nat} {s : Sc} (h : IsSc w g s) (hq : s.asked = true) (ha : s.asks = 0) (t0 : 0 ≤ s.took) (t1 : s.took ≤ 1000) :
    Calls Try.prog 34 #[.pointer (some ⟨g, 0, none⟩), .bool true] w (AnswerPost w g { s with asks := 1, asked := false, took := s.took + 1 }) := by
  have H := Lib.hid h
  have c0 : w.cell? ⟨g, 0, none⟩ = some (.int .i64 s.asks) := Blk.cell h 0
  have c1 : w.cell? ⟨g, 1, none⟩ = some (.int .i64 s.part) := Blk.cell h 1
  have c2 : w.cell? ⟨g, 2, none⟩ = some (.int .i64 s.bit) := Blk.cell h 2
  have c7 : w.cell? ⟨g, 7, none⟩ = some (.bool s.found) := Blk.cell h 7
  have c8 : w.cell? ⟨g, 8, none⟩ = some (.bool s.asked) := Blk.cell h 8
  have c9 : w.cell? ⟨g, 9, none⟩ = some (.int .i64 s.took) := Blk.cell h 9
  have f0 : w.frozen? ⟨g, 0, none⟩ = false := Blk.frozen h 0
  have f1 : w.frozen? ⟨g, 1, none⟩ = false := Blk.frozen h 1
  have f2 : w.frozen? ⟨g, 2, none⟩ = false := Blk.frozen h 2
  have f7 : w.frozen? ⟨g, 7, none⟩ = false := Blk.frozen h 7
  have f8 : w.frozen? ⟨g, 8, none⟩ = false := Blk.frozen h 8
  have f9 : w.frozen? ⟨g, 9, none⟩ = false := Blk.frozen h 9
  have gl : g < w.heap.size := Blk.lt h
  rw [hq] at c8
  rw [ha] at c0
  clear h hq ha
  unfold AnswerPost
  go_enter Try.func34, Try.ntmps34
  go_wp2_with fail
  go_end0
  refine ⟨rfl, ?_, ?_⟩
  · show Blk _ g _ 114
    apply Blk.cast
    · repeat (first | (with_reducible first | apply Blk.set | apply Blk.drewN | apply Blk.drew) | exact H.out)
    · first | (simp [Sc.cells]; done) | simp [Sc.cells, HA.out]
  · repeat (with_reducible first | exact Keep.refl _ _ | apply Keep.set1 | apply Keep.drewN | apply Keep.drew)
set_option maxRecDepth 100000 in
set_option maxHeartbeats 2000000 in
theorem Answer_2 {w : World} {g : Nat} {s : Sc} (h : IsSc w g s) (hq : s.asked = true) (ha : s.asks = 2) (t0 : 0 ≤ s.took) (t1 : s.took ≤ 1000) (p0 : 0 ≤ s.part) (p1 : s.part < 3) :
    Calls Try.prog 34 #[.pointer (some ⟨g, 0, none⟩), .bool true] w (AnswerPost w g { s with asks := 1, part := s.part + 1, bit := 31, asked := false, took := s.took + 1 }) := by
  have H := Lib.hid h
  have c0 : w.cell? ⟨g, 0, none⟩ = some (.int .i64 s.asks) := Blk.cell h 0
  have c1 : w.cell? ⟨g, 1, none⟩ = some (.int .i64 s.part) := Blk.cell h 1
  have c2 : w.cell? ⟨g, 2, none⟩ = some (.int .i64 s.bit) := Blk.cell h 2
  have c7 : w.cell? ⟨g, 7, none⟩ = some (.bool s.found) := Blk.cell h 7
  have c8 : w.cell? ⟨g, 8, none⟩ = some (.bool s.asked) := Blk.cell h 8
  have c9 : w.cell? ⟨g, 9, none⟩ = some (.int .i64 s.took) := Blk.cell h 9
  have f0 : w.frozen? ⟨g, 0, none⟩ = false := Blk.frozen h 0
  have f1 : w.frozen? ⟨g, 1, none⟩ = false := Blk.frozen h 1
  have f2 : w.frozen? ⟨g, 2, none⟩ = false := Blk.frozen h 2
  have f7 : w.frozen? ⟨g, 7, none⟩ = false := Blk.frozen h 7
  have f8 : w.frozen? ⟨g, 8, none⟩ = false := Blk.frozen h 8
  have f9 : w.frozen? ⟨g, 9, none⟩ = false := Blk.frozen h 9
  have gl : g < w.heap.size := Blk.lt h
  rw [hq] at c8
  have hb : (s.part + 1 == 4) = false := by simp; omega
  rw [ha] at c0
  clear h hq ha
  unfold AnswerPost
  go_enter Try.func34, Try.ntmps34
  go_wp2_with fail
  go_end0
  refine ⟨rfl, ?_, ?_⟩
  · show Blk _ g _ 114
    apply Blk.cast
    · repeat (first | (with_reducible first | apply Blk.set | apply Blk.drewN | apply Blk.drew) | exact H.out)
    · first | (simp [Sc.cells]; done) | simp [Sc.cells, HA.out]
  · repeat (with_reducible first | exact Keep.refl _ _ | apply Keep.set1 | apply Keep.drewN | apply Keep.drew)
set_option maxRecDepth 100000 in
set_option maxHeartbeats 2000000 in
theorem Answer_3 {w : World} {g : Nat} {s : Sc} (h : IsSc w g s) (hq : s.asked = true) (ha : s.asks = 2) (t0 : 0 ≤ s.took) (t1 : s.took ≤ 1000) (p1 : s.part = 3) :
    Calls Try.prog 34 #[.pointer (some ⟨g, 0, none⟩), .bool true] w (AnswerPost w g { s with asks := 3, part := 4, bit := 31, found := true, asked := false, took := s.took + 1 }) := by
  have H := Lib.hid h
  have c0 : w.cell? ⟨g, 0, none⟩ = some (.int .i64 s.asks) := Blk.cell h 0
  have c1 : w.cell? ⟨g, 1, none⟩ = some (.int .i64 s.part) := Blk.cell h 1
  have c2 : w.cell? ⟨g, 2, none⟩ = some (.int .i64 s.bit) := Blk.cell h 2
  have c7 : w.cell? ⟨g, 7, none⟩ = some (.bool s.found) := Blk.cell h 7
  have c8 : w.cell? ⟨g, 8, none⟩ = some (.bool s.asked) := Blk.cell h 8
  have c9 : w.cell? ⟨g, 9, none⟩ = some (.int .i64 s.took) := Blk.cell h 9
  have f0 : w.frozen? ⟨g, 0, none⟩ = false := Blk.frozen h 0
  have f1 : w.frozen? ⟨g, 1, none⟩ = false := Blk.frozen h 1
  have f2 : w.frozen? ⟨g, 2, none⟩ = false := Blk.frozen h 2
  have f7 : w.frozen? ⟨g, 7, none⟩ = false := Blk.frozen h 7
  have f8 : w.frozen? ⟨g, 8, none⟩ = false := Blk.frozen h 8
  have f9 : w.frozen? ⟨g, 9, none⟩ = false := Blk.frozen h 9
  have gl : g < w.heap.size := Blk.lt h
  rw [hq] at c8
  rw [ha] at c0
  rw [p1] at c1
  clear h hq ha p1
  unfold AnswerPost
  go_enter Try.func34, Try.ntmps34
  go_wp2_with fail
  go_end0
  refine ⟨rfl, ?_, ?_⟩
  · show Blk _ g _ 114
    apply Blk.cast
    · repeat (first | (with_reducible first | apply Blk.set | apply Blk.drewN | apply Blk.drew) | exact H.out)
    · first | (simp [Sc.cells]; done) | simp [Sc.cells, HA.out]
  · repeat (with_reducible first | exact Keep.refl _ _ | apply Keep.set1 | apply Keep.drewN | apply Keep.drew)
set_option maxRecDepth 100000 in
set_option maxHeartbeats 2000000 in
theorem Answer_yes {w : World} {g : Nat} {s : Sc} (h : IsSc w g s) (hq : s.asked = true) (ha : s.asks = 1) (t0 : 0 ≤ s.took) (t1 : s.took ≤ 1000) (b0 : 0 ≤ s.bit) (b1 : s.bit ≤ 31) (z : Int) (hz : z = if s.bit = 0 then 2 else 1) :
    Calls Try.prog 34 #[.pointer (some ⟨g, 0, none⟩), .bool true] w (AnswerPost w g { s with asks := z, bit := s.bit - 1, asked := false, took := s.took + 1 }) := by
  have H := Lib.hid h
  have c0 : w.cell? ⟨g, 0, none⟩ = some (.int .i64 s.asks) := Blk.cell h 0
  have c1 : w.cell? ⟨g, 1, none⟩ = some (.int .i64 s.part) := Blk.cell h 1
  have c2 : w.cell? ⟨g, 2, none⟩ = some (.int .i64 s.bit) := Blk.cell h 2
  have c7 : w.cell? ⟨g, 7, none⟩ = some (.bool s.found) := Blk.cell h 7
  have c8 : w.cell? ⟨g, 8, none⟩ = some (.bool s.asked) := Blk.cell h 8
  have c9 : w.cell? ⟨g, 9, none⟩ = some (.int .i64 s.took) := Blk.cell h 9
  have f0 : w.frozen? ⟨g, 0, none⟩ = false := Blk.frozen h 0
  have f1 : w.frozen? ⟨g, 1, none⟩ = false := Blk.frozen h 1
  have f2 : w.frozen? ⟨g, 2, none⟩ = false := Blk.frozen h 2
  have f7 : w.frozen? ⟨g, 7, none⟩ = false := Blk.frozen h 7
  have f8 : w.frozen? ⟨g, 8, none⟩ = false := Blk.frozen h 8
  have f9 : w.frozen? ⟨g, 9, none⟩ = false := Blk.frozen h 9
  have gl : g < w.heap.size := Blk.lt h
  rw [hq] at c8
  rw [ha] at c0
  have HA := Lib.hid ha
  by_cases hb : s.bit = 0
  · rw [if_pos hb] at hz
    subst hz
    have hb2 : decide (s.bit - 1 < 0) = true := by simp; omega
    clear h hq ha hb
    unfold AnswerPost
    go_enter Try.func34, Try.ntmps34
    go_wp2_with fail
    go_end0
    refine ⟨rfl, ?_, ?_⟩
    · show Blk _ g _ 114
      apply Blk.cast
      · repeat (first | (with_reducible first | apply Blk.set | apply Blk.drewN | apply Blk.drew) | exact H.out)
      · first | (simp [Sc.cells]; done) | simp [Sc.cells, HA.out]
    · repeat (with_reducible first | exact Keep.refl _ _ | apply Keep.set1 | apply Keep.drewN | apply Keep.drew)
  · rw [if_neg hb] at hz
    subst hz
    have hb2 : decide (s.bit - 1 < 0) = false := by simp; omega
    clear h hq ha hb
    unfold AnswerPost
    go_enter Try.func34, Try.ntmps34
    go_wp2_with fail
    go_end0
    refine ⟨rfl, ?_, ?_⟩
    · show Blk _ g _ 114
      apply Blk.cast
      · repeat (first | (with_reducible first | apply Blk.set | apply Blk.drewN | apply Blk.drew) | exact H.out)
      · first | (simp [Sc.cells]; done) | simp [Sc.cells, HA.out]
    · repeat (with_reducible first | exact Keep.refl _ _ | apply Keep.set1 | apply Keep.drewN | apply Keep.drew)
set_option maxRecDepth 100000 in
set_option maxHeartbeats 2000000 in
theorem Answer_bit {w : World} {g : Nat} {s : Sc} (h : IsSc w g s) (hq : s.asked = true) (ha : s.asks = 1) (t0 : 0 ≤ s.took) (t1 : s.took ≤ 1000) (b0 : 0 ≤ s.bit) (b1 : s.bit ≤ 31) (p0 : 0 ≤ s.part) (p1 : s.part ≤ 3) (k0 : 0 ≤ s.K s.part.toNat) (k1 : s.K s.part.toNat < 4294967296)
    (hm : s.K s.part.toNat % 2 ^ (s.bit.toNat + 1) = 0) (z : Int) (hz : z = if s.bit = 0 then 2 else 1) :
    Calls Try.prog 34 #[.pointer (some ⟨g, 0, none⟩), .bool false] w (AnswerPost w g { s with asks := z, bit := s.bit - 1, asked := false, took := s.took + 1, K := fun k => if k = s.part.toNat then s.K k + 2 ^ s.bit.toNat else s.K k }) := by
  have H := Lib.hid h
  have c0 : w.cell? ⟨g, 0, none⟩ = some (.int .i64 s.asks) := Blk.cell h 0
  have c1 : w.cell? ⟨g, 1, none⟩ = some (.int .i64 s.part) := Blk.cell h 1
  have c2 : w.cell? ⟨g, 2, none⟩ = some (.int .i64 s.bit) := Blk.cell h 2
  have c7 : w.cell? ⟨g, 7, none⟩ = some (.bool s.found) := Blk.cell h 7
  have c8 : w.cell? ⟨g, 8, none⟩ = some (.bool s.asked) := Blk.cell h 8
  have c9 : w.cell? ⟨g, 9, none⟩ = some (.int .i64 s.took) := Blk.cell h 9
  have f0 : w.frozen? ⟨g, 0, none⟩ = false := Blk.frozen h 0
  have f1 : w.frozen? ⟨g, 1, none⟩ = false := Blk.frozen h 1
  have f2 : w.frozen? ⟨g, 2, none⟩ = false := Blk.frozen h 2
  have f7 : w.frozen? ⟨g, 7, none⟩ = false := Blk.frozen h 7
  have f8 : w.frozen? ⟨g, 8, none⟩ = false := Blk.frozen h 8
  have f9 : w.frozen? ⟨g, 9, none⟩ = false := Blk.frozen h 9
  have gl : g < w.heap.size := Blk.lt h
  rw [hq] at c8
  rw [ha] at c0
  have HA := Lib.hid ha
  obtain ⟨p, hp⟩ : ∃ p : Nat, s.part = p := ⟨s.part.toNat, by omega⟩
  obtain ⟨b, hb⟩ : ∃ b : Nat, s.bit = b := ⟨s.bit.toNat, by omega⟩
  obtain ⟨K, hK⟩ : ∃ K, K = s.K s.part.toNat := ⟨_, rfl⟩
  rw [← hK] at k0 k1
  have ck : w.cell? ⟨g, 3 + p, none⟩ = some (.int .u32 K) := by
    have e : p = 0 ∨ p = 1 ∨ p = 2 ∨ p = 3 := by omega
    rw [hK, hp, Int.toNat_natCast]
    rcases e with rfl | rfl | rfl | rfl <;> exact Blk.cell h _
  have fk : w.frozen? ⟨g, 3 + p, none⟩ = false := Blk.frozen h _
  rw [hp] at c1 p0 p1
  rw [hb] at c2 b0 b1
  have h4 : (p : Int) < 4 := by omega
  have HP := Lib.hid hp
  have HBt := Lib.hid hb
  have HZ := Lib.hid hz
  have HOr : Hid (bits .or .u32 K (2 ^ b % 4294967296) = K + 2 ^ b) := Lib.hid (by
    rw [← hK, hb, Int.toNat_natCast] at hm
    exact or_bit K b (by omega) k0 k1 hm)
  rw [hp, Int.toNat_natCast] at hK
  have HKk := Lib.hid hK
  clear h hq ha hp hb hK hm hz
  unfold AnswerPost
  go_enter Try.func34, Try.ntmps34
  go_wp2_with fail
  go_region
  rw [HOr.out]
  generalize hW : World.drew _ = W
  have HW : Hid (IsSc W g { s with asked := false, took := s.took + 1, K := fun k => if k = p then s.K k + 2 ^ b else s.K k } ∧ Keep (Own.One g) w W) := Lib.hid (by
    rw [← hW]
    refine ⟨?_, Keep.drew ((((Keep.refl (Own.One g) w).set1 8 _).set1 9 _).set1 _ _)⟩
    show Blk _ g _ 114
    apply Blk.cast
    · repeat (first | (with_reducible first | apply Blk.set | apply Blk.drew) | exact H.out)
    · have e : p = 0 ∨ p = 1 ∨ p = 2 ∨ p = 3 := by omega
      rw [HKk.out]
      rcases e with rfl | rfl | rfl | rfl <;> simp [Sc.cells])
  clear hW c0 c1 c2 c7 c8 c9 f0 f1 f2 f7 f8 f9 gl ck fk
  have c2 : W.cell? ⟨g, 2, none⟩ = some (.int .i64 b) := by rw [← HBt.out]; exact Blk.cell HW.out.1 2
  have f2 : W.frozen? ⟨g, 2, none⟩ = false := Blk.frozen HW.out.1 2
  have f0 : W.frozen? ⟨g, 0, none⟩ = false := Blk.frozen HW.out.1 0
  have c0 : W.cell? ⟨g, 0, none⟩ = some (.int .i64 1) := by rw [← HA.out]; exact Blk.cell HW.out.1 0
  have gl : g < W.heap.size := Blk.lt HW.out.1
  by_cases hb : b = 0
  · have hzz : z = 2 := HZ.out.trans (if_pos (by rw [HBt.out]; omega))
    subst hzz
    have hb2 : decide ((b : Int) - 1 < 0) = true := by simp; omega
    clear hb
    go_wp2_with fail
    go_end0
    refine ⟨rfl, ?_, ?_⟩
    · show Blk _ g _ 114
      apply Blk.cast
      · repeat (first | (with_reducible first | apply Blk.set | apply Blk.drewN | apply Blk.drew) | exact HW.out.1)
      · simp [Sc.cells, HA.out, HBt.out, HP.out]
    · repeat (with_reducible first | exact HW.out.2 | apply Keep.set1 | apply Keep.drewN | apply Keep.drew)
  · have hzz : z = 1 := HZ.out.trans (if_neg (by rw [HBt.out]; omega))
    subst hzz
    have hb2 : decide ((b : Int) - 1 < 0) = false := by simp; omega
    clear hb
    go_wp2_with fail
    go_end0
    refine ⟨rfl, ?_, ?_⟩
    · show Blk _ g _ 114
      apply Blk.cast
      · repeat (first | (with_reducible first | apply Blk.set | apply Blk.drewN | apply Blk.drew) | exact HW.out.1)
      · simp [Sc.cells, HA.out, HBt.out, HP.out]
    · repeat (with_reducible first | exact HW.out.2 | apply Keep.set1 | apply Keep.drewN | apply Keep.drew)
end Go.Proofs.Ytcmfcnljdeddfaa.Num
