/- What the consumers' Tick, and the document's Take, come to. -/
import Derived.Test.YtmaajpkkdpaeeaaSyncE
namespace Go.Proofs.Ytmaajpkkdpaeeaa.Sync
open Go.RowKit Go.Proofs.Ytmaajpkkdpaeeaa.Own
set_option maxHeartbeats 1000000 in
theorem RCounts_any (ov : Int) (b : Bool) (hb : b = decide (Cnt ov)) (w : World) : Calls Try.prog 15 #[.int .i64 ov] w fun e w' => e = .returned (.bool b) ∧ w = w' := by
  have HB := Lib.hid hb
  by_cases h0 : ov = 0
  · have t0 : (ov == 0) = true := by simp [h0]
    have e : b = true := by rw [hb]; simp [Cnt, h0]
    subst e
    clear hb HB h0
    go_enter Try.func15, Try.ntmps15
    go_wp2
    go_ret
    exact ⟨rfl, rfl⟩
  have t0 : (ov == 0) = false := by simp [h0]
  by_cases h2 : 2 ≤ ov
  · have t2 : decide (2 ≤ ov) = true := decide_eq_true h2
    have e : b = decide (ov ≤ 240) := by rw [hb]; unfold Cnt; simp [h0, h2]
    have E := Lib.hid e
    clear hb HB h0 e
    go_enter Try.func15, Try.ntmps15
    go_wp2
    go_ret
    rw [E.out]
    exact ⟨rfl, rfl⟩
  · have t2 : decide (2 ≤ ov) = false := decide_eq_false h2
    have e : b = false := by rw [hb]; unfold Cnt; simp [h0, h2]
    subst e
    clear hb HB h0
    go_enter Try.func15, Try.ntmps15
    go_wp2
    go_ret
    exact ⟨rfl, rfl⟩

def CTickPost (T : Nat) (w : World) (g : Nat) (c : Co) (n : Int) (e : Ending) (w' : World) : Prop := e = .returned (.tuple #[]) ∧ IsCo T w' g { c with since := min (c.since + n) 18446744073709551615 } ∧ Keep (One g) w w'
set_option maxRecDepth 100000 in
set_option maxHeartbeats 2000000 in
theorem CTick_any {w : World} {g : Nat} {c : Co} (h : IsCo 68 w g c) (s0 : 0 ≤ c.since) (s1 : c.since ≤ 18446744073709551615) (n : Int) (n0 : 0 ≤ n) (n1 : n ≤ 18446744073709551615) : Calls Try.prog 21 #[.pointer (some ⟨g, 0, none⟩), .int .u64 n] w (CTickPost 68 w g c n) := by
  obtain ⟨c0, c1, c2, c3, c4, c5, f0, f1, f2, f3, f4, f5⟩ := h.facts
  have H := Lib.hid h
  clear h
  by_cases hl : c.since + n ≤ 18446744073709551615
  · have b1 : decide (18446744073709551615 - n < c.since) = false := by simp; omega
    have E : Hid (min (c.since + n) 18446744073709551615 = c.since + n) := Int.min_eq_left hl
    go_enter Try.func21, Try.ntmps21
    go_wp2
    go_end0
    unfold CTickPost
    rw [E.out]
    refine ⟨rfl, ?_, ?_⟩
    · apply Blk.cast
      · repeat (first | (with_reducible first | apply Blk.set | apply Blk.drewN | apply Blk.drew) | exact H.out)
      · simp [Co.cells]
    · repeat (with_reducible first | exact Keep.refl _ _ | apply Keep.set1 | apply Keep.drewN | apply Keep.drew)
  · have b1 : decide (18446744073709551615 - n < c.since) = true := by simp; omega
    have E : Hid (min (c.since + n) 18446744073709551615 = 18446744073709551615) := Int.min_eq_right (by omega)
    clear hl
    go_enter Try.func21, Try.ntmps21
    go_wp2
    go_end0
    unfold CTickPost
    rw [E.out]
    refine ⟨rfl, ?_, ?_⟩
    · apply Blk.cast
      · repeat (first | (with_reducible first | apply Blk.set | apply Blk.drewN | apply Blk.drew) | exact H.out)
      · simp [Co.cells] <;> omega
    · repeat (with_reducible first | exact Keep.refl _ _ | apply Keep.set1 | apply Keep.drewN | apply Keep.drew)
set_option maxRecDepth 100000 in
set_option maxHeartbeats 2000000 in
theorem RCTick_any {w : World} {g : Nat} {c : Co} (h : IsCo 60 w g c) (s0 : 0 ≤ c.since) (s1 : c.since ≤ 18446744073709551615) (n : Int) (n0 : 0 ≤ n) (n1 : n ≤ 18446744073709551615) : Calls Try.prog 23 #[.pointer (some ⟨g, 0, none⟩), .int .u64 n] w (CTickPost 60 w g c n) := by
  obtain ⟨c0, c1, c2, c3, c4, c5, f0, f1, f2, f3, f4, f5⟩ := h.facts
  have H := Lib.hid h
  clear h
  by_cases hl : c.since + n ≤ 18446744073709551615
  · have b1 : decide (c.since + n < n) = false := by simp; omega
    have E : Hid (min (c.since + n) 18446744073709551615 = c.since + n) := Int.min_eq_left hl
    go_enter Try.func23, Try.ntmps23
    go_wp2
    go_end0
    unfold CTickPost
    rw [E.out]
    refine ⟨rfl, ?_, ?_⟩
    · apply Blk.cast
      · repeat (first | (with_reducible first | apply Blk.set | apply Blk.drewN | apply Blk.drew) | exact H.out)
      · simp [Co.cells]
    · repeat (with_reducible first | exact Keep.refl _ _ | apply Keep.set1 | apply Keep.drewN | apply Keep.drew)
  · have E : Hid (min (c.since + n) 18446744073709551615 = 18446744073709551615) := Int.min_eq_right (by omega)
    have hw : IntKind.u64.wrap (c.since + n) = c.since + n - 18446744073709551616 := by
      rw [IntKind.wrap_u64]
      omega
    have b1 : decide (c.since + n - 18446744073709551616 < n) = true := by simp; omega
    clear hl
    go_enter Try.func23, Try.ntmps23
    go_wp2
    go_end0
    unfold CTickPost
    rw [E.out]
    refine ⟨rfl, ?_, ?_⟩
    · apply Blk.cast
      · repeat (first | (with_reducible first | apply Blk.set | apply Blk.drewN | apply Blk.drew) | exact H.out)
      · simp [Co.cells]
    · repeat (with_reducible first | exact Keep.refl _ _ | apply Keep.set1 | apply Keep.drewN | apply Keep.drew)
def Bad (c : Co) (x : Int) : Prop := 0 < c.cycle ∧ 0 < c.ov ∧ x ≠ c.next % c.ov + 1
instance (c : Co) (x : Int) : Decidable (Bad c x) := by unfold Bad; infer_instance
def RTakePost (w : World) (g : Nat) (c : Co) (x : Int) (e : Ending) (w' : World) : Prop :=
  (∃ r, e = .returned (.int .i64 r) ∧ Hid (r = if Bad c x then 6 else 0)) ∧ IsCo 60 w' g { c with next := x, cycle := c.cycle + 1, wrong := if Bad c x then c.wrong + 1 else c.wrong, since := 0 } ∧ Keep (One g) w w'
set_option maxHeartbeats 4000000 in
theorem RTake_no {w : World} {g : Nat} {c : Co} (h : IsCo 60 w g c) (hc : Cnt c.ov) (x : Int) (hf : ¬ Fits c.ov x) : Calls Try.prog 24 #[.pointer (some ⟨g, 0, none⟩), .int .i64 x] w fun e w' => e = .returned (.int .i64 8) ∧ Keep Zero w w' := by
  obtain ⟨c0, c1, c2, c3, c4, c5, f0, f1, f2, f3, f4, f5⟩ := h.facts
  have H := Lib.hid h
  clear h
  by_cases h0 : c.ov = 0
  · have hx : x ≠ 0 := by unfold Fits at hf; rw [if_pos h0] at hf; exact hf
    have b1 : (c.ov == 0) = true := by simp [h0]
    have b2 : (x != 0) = true := by simp [hx]
    have b3 : decide (0 < c.ov) = false := by simp [h0]
    clear h0 hf hc hx
    go_enter Try.func24, Try.ntmps24
    go_wp2
    go_ret
    exact ⟨rfl, Keep.refl _ _⟩
  · have o2 : 2 ≤ c.ov := by unfold Cnt at hc; omega
    have hx : x < 1 ∨ c.ov < x := by unfold Fits at hf; rw [if_neg h0] at hf; omega
    have b1 : (c.ov == 0) = false := by simp [h0]
    have b3 : decide (0 < c.ov) = true := by simp; omega
    clear h0 hf hc
    by_cases k : x < 1
    · have b4 : decide (x < 1) = true := decide_eq_true k
      clear hx
      go_enter Try.func24, Try.ntmps24
      go_wp2
      go_ret
      exact ⟨rfl, Keep.refl _ _⟩
    · have b4 : decide (x < 1) = false := decide_eq_false k
      have b5 : decide (c.ov < x) = true := decide_eq_true (hx.resolve_left k)
      clear hx
      go_enter Try.func24, Try.ntmps24
      go_wp2
      go_ret
      exact ⟨rfl, Keep.refl _ _⟩
set_option maxRecDepth 100000 in
set_option maxHeartbeats 8000000 in
theorem RTake_yes {w : World} {g : Nat} {c : Co} (h : IsCo 60 w g c) (hc : Cnt c.ov) (y0 : 0 ≤ c.cycle) (y1 : c.cycle ≤ 1000000000000000) (z0 : 0 ≤ c.wrong) (z1 : c.wrong ≤ 1000000000000000) (l0 : 0 ≤ c.next) (l1 : c.next ≤ 240) (x : Int) (hf : Fits c.ov x) : Calls Try.prog 24 #[.pointer (some ⟨g, 0, none⟩), .int .i64 x] w (RTakePost w g c x) := by
  obtain ⟨c0, c1, c2, c3, c4, c5, f0, f1, f2, f3, f4, f5⟩ := h.facts
  have H := Lib.hid h
  clear h
  by_cases h0 : c.ov = 0
  · have hx : x = 0 := by unfold Fits at hf; rw [if_pos h0] at hf; exact hf
    have b1 : (c.ov == 0) = true := by simp [h0]
    have b2 : (x != 0) = false := by simp [hx]
    have b3 : decide (0 < c.ov) = false := by simp [h0]
    have R : Hid (¬ Bad c x) := by unfold Hid Bad; omega
    have x0 : 0 ≤ x := by omega
    have x1 : x ≤ 0 := by omega
    clear h0 hf hc hx
    by_cases h1 : 0 < c.cycle
    · have b6 : decide (0 < c.cycle) = true := decide_eq_true h1
      clear h1
      go_enter Try.func24, Try.ntmps24
      go_wp2_with fail
      go_quiet (fail)
      go_wp2
      go_ret
      refine ⟨⟨_, rfl, Lib.hid (by rw [if_neg R.out])⟩, ?_, ?_⟩
      · rw [if_neg R.out]
        apply Blk.cast
        · repeat (first | (with_reducible first | apply Blk.set | apply Blk.drewN | apply Blk.drew) | exact H.out)
        · simp [Co.cells]
      · repeat (with_reducible first | exact Keep.refl _ _ | apply Keep.set1 | apply Keep.drewN | apply Keep.drew)
    · have b6 : decide (0 < c.cycle) = false := decide_eq_false h1
      clear h1
      go_enter Try.func24, Try.ntmps24
      go_wp2_with fail
      go_quiet (fail)
      go_wp2
      go_ret
      refine ⟨⟨_, rfl, Lib.hid (by rw [if_neg R.out])⟩, ?_, ?_⟩
      · rw [if_neg R.out]
        apply Blk.cast
        · repeat (first | (with_reducible first | apply Blk.set | apply Blk.drewN | apply Blk.drew) | exact H.out)
        · simp [Co.cells]
      · repeat (with_reducible first | exact Keep.refl _ _ | apply Keep.set1 | apply Keep.drewN | apply Keep.drew)
  · have o2 : 2 ≤ c.ov := by unfold Cnt at hc; omega
    have o3 : c.ov ≤ 240 := by unfold Cnt at hc; omega
    have hx : 1 ≤ x ∧ x ≤ c.ov := by unfold Fits at hf; rw [if_neg h0] at hf; exact hf
    obtain ⟨x0, x1⟩ := hx
    have b1 : (c.ov == 0) = false := by simp [h0]
    have b3 : decide (0 < c.ov) = true := by simp; omega
    have b4 : decide (x < 1) = false := by simp; omega
    have b5 : decide (c.ov < x) = false := by simp; omega
    have m2 := Int.emod_nonneg c.next (b := c.ov) (by omega)
    have m3 := Int.emod_lt_of_pos c.next (b := c.ov) (by omega)
    clear h0 hf hc
    by_cases h1 : 0 < c.cycle
    · have b6 : decide (0 < c.cycle) = true := decide_eq_true h1
      by_cases h2 : x = c.next % c.ov + 1
      · have b7 : (x != c.next % c.ov + 1) = false := by simp [h2]
        have R : Hid (¬ Bad c x) := fun k => k.2.2 h2
        clear h1 h2
        go_enter Try.func24, Try.ntmps24
        go_wp2_with fail
        go_quiet (fail)
        go_wp2
        go_ret
        refine ⟨⟨_, rfl, Lib.hid (by rw [if_neg R.out])⟩, ?_, ?_⟩
        · rw [if_neg R.out]
          apply Blk.cast
          · repeat (first | (with_reducible first | apply Blk.set | apply Blk.drewN | apply Blk.drew) | exact H.out)
          · simp [Co.cells]
        · repeat (with_reducible first | exact Keep.refl _ _ | apply Keep.set1 | apply Keep.drewN | apply Keep.drew)
      · have b7 : (x != c.next % c.ov + 1) = true := by simp [h2]
        have R : Hid (Bad c x) := ⟨h1, by omega, h2⟩
        clear h1 h2
        go_enter Try.func24, Try.ntmps24
        go_wp2_with fail
        go_quiet (fail)
        go_wp2
        go_ret
        refine ⟨⟨_, rfl, Lib.hid (by rw [if_pos R.out])⟩, ?_, ?_⟩
        · rw [if_pos R.out]
          apply Blk.cast
          · repeat (first | (with_reducible first | apply Blk.set | apply Blk.drewN | apply Blk.drew) | exact H.out)
          · simp [Co.cells]
        · repeat (with_reducible first | exact Keep.refl _ _ | apply Keep.set1 | apply Keep.drewN | apply Keep.drew)
    · have b6 : decide (0 < c.cycle) = false := decide_eq_false h1
      have R : Hid (¬ Bad c x) := fun k => h1 k.1
      clear h1
      go_enter Try.func24, Try.ntmps24
      go_wp2_with fail
      go_quiet (fail)
      go_wp2
      go_ret
      refine ⟨⟨_, rfl, Lib.hid (by rw [if_neg R.out])⟩, ?_, ?_⟩
      · rw [if_neg R.out]
        apply Blk.cast
        · repeat (first | (with_reducible first | apply Blk.set | apply Blk.drewN | apply Blk.drew) | exact H.out)
        · simp [Co.cells]
      · repeat (with_reducible first | exact Keep.refl _ _ | apply Keep.set1 | apply Keep.drewN | apply Keep.drew)
end Go.Proofs.Ytmaajpkkdpaeeaa.Sync
