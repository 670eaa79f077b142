/- What the consumers come to. -/
import Derived.Test.YtmaajpkkdpaeeaaSyncC
namespace Go.Proofs.Ytmaajpkkdpaeeaa.Sync
open Go.RowKit Go.Proofs.Ytmaajpkkdpaeeaa.Own
structure Co where
  ov : Int
  window : Int
  next : Int
  cycle : Int
  wrong : Int
  since : Int
def Co.cells (c : Co) : Array Value := #[.int .i64 c.ov, .int .u64 c.window, .int .i64 c.next, .int .u64 c.cycle, .int .u64 c.wrong, .int .u64 c.since]
def IsCo (T : Nat) (w : World) (g : Nat) (c : Co) : Prop := Blk w g c.cells T
theorem IsCo.keep {T : Nat} {S : Nat → Prop} {w w1 : World} {g : Nat} {p : Co} (h : IsCo T w g p) (k : Keep S w w1) (hn : ¬ S g) : IsCo T w1 g p := Blk.keep h k hn
theorem IsCo.facts {T : Nat} {w : World} {g : Nat} {d : Co} (h : IsCo T w g d) :
    w.cell? ⟨g, 0, none⟩ = some (.int .i64 d.ov) ∧ w.cell? ⟨g, 1, none⟩ = some (.int .u64 d.window) ∧ w.cell? ⟨g, 2, none⟩ = some (.int .i64 d.next) ∧ w.cell? ⟨g, 3, none⟩ = some (.int .u64 d.cycle) ∧ w.cell? ⟨g, 4, none⟩ = some (.int .u64 d.wrong) ∧ w.cell? ⟨g, 5, none⟩ = some (.int .u64 d.since) ∧
    w.frozen? ⟨g, 0, none⟩ = false ∧ w.frozen? ⟨g, 1, none⟩ = false ∧ w.frozen? ⟨g, 2, none⟩ = false ∧ w.frozen? ⟨g, 3, none⟩ = false ∧ w.frozen? ⟨g, 4, none⟩ = false ∧ w.frozen? ⟨g, 5, none⟩ = false :=
  ⟨h.cell 0, h.cell 1, h.cell 2, h.cell 3, h.cell 4, h.cell 5, h.frozen 0, h.frozen 1, h.frozen 2, h.frozen 3, h.frozen 4, h.frozen 5⟩

set_option maxHeartbeats 1000000 in
theorem NewC_ok (ov win : Int) (h : Cnt ov) (w2 : win ≤ 4294967296) (w : World) :
    Calls Try.prog 12 #[.int .i64 ov, .int .u64 win] w fun e w' => ∃ g, e = .returned (.tuple #[.pointer (some ⟨g, 0, none⟩), .int .i64 0]) ∧ IsCo 68 w' g ⟨ov, win, 0, 0, 0, 0⟩ ∧ w.heap.size ≤ g ∧ Keep Zero w w' := by
  have hb : true = decide (Cnt ov) := by simp [h]
  have HB := Lib.hid hb
  have b2 : decide (4294967296 < win) = false := by simp; omega
  clear hb h
  go_enter Try.func12, Try.ntmps12
  go_wp2_with ((with_reducible refine (counts_any ov true HB.out _).mono ?_); rintro e w' ⟨rfl, rfl⟩)
  go_ret2
  exact ⟨_, rfl, Blk.new _ _ _, Nat.le_refl _, (Keep.refl _ _).alloc _⟩
set_option maxHeartbeats 1000000 in
theorem NewC_bad (ov win : Int) (h : ¬ (Cnt ov ∧ win ≤ 4294967296)) (w : World) :
    Calls Try.prog 12 #[.int .i64 ov, .int .u64 win] w fun e w' => e = .returned (.tuple #[.pointer none, .int .i64 1]) ∧ w = w' := by
  by_cases h1 : Cnt ov
  · have hb : true = decide (Cnt ov) := by simp [h1]
    have HB := Lib.hid hb
    have b2 : decide (4294967296 < win) = true := by simp; exact Int.not_le.1 (fun k => h ⟨h1, k⟩)
    clear hb h h1
    go_enter Try.func12, Try.ntmps12
    go_wp2_with ((with_reducible refine (counts_any ov true HB.out _).mono ?_); rintro e w' ⟨rfl, rfl⟩)
    go_ret2
    exact ⟨rfl, rfl⟩
  · have hb : false = decide (Cnt ov) := by simp [h1]
    have HB := Lib.hid hb
    clear hb h h1
    go_enter Try.func12, Try.ntmps12
    go_wp2_with ((with_reducible refine (counts_any ov false HB.out _).mono ?_); rintro e w' ⟨rfl, rfl⟩)
    go_ret2
    exact ⟨rfl, rfl⟩

theorem Cycle_any {w : World} {g : Nat} {c : Co} (h : IsCo 68 w g c) : Calls Try.prog 22 #[.pointer (some ⟨g, 0, none⟩)] w fun e w' => e = .returned (.int .u64 c.cycle) ∧ w = w' := by
  obtain ⟨c0, c1, c2, c3, c4, c5, f0, f1, f2, f3, f4, f5⟩ := h.facts
  have H := Lib.hid h
  clear h
  go_enter Try.func22, Try.ntmps22
  go_wp2
  go_ret
  exact ⟨rfl, rfl⟩
theorem Wrong_any {w : World} {g : Nat} {c : Co} (h : IsCo 68 w g c) : Calls Try.prog 14 #[.pointer (some ⟨g, 0, none⟩)] w fun e w' => e = .returned (.int .u64 c.wrong) ∧ w = w' := by
  obtain ⟨c0, c1, c2, c3, c4, c5, f0, f1, f2, f3, f4, f5⟩ := h.facts
  have H := Lib.hid h
  clear h
  go_enter Try.func14, Try.ntmps14
  go_wp2
  go_ret
  exact ⟨rfl, rfl⟩

def Co.isOpen (c : Co) : Bool := decide (0 < c.cycle) && (decide (c.window = 0) || decide (c.since < c.window))
set_option maxHeartbeats 2000000 in
theorem Open_any {w : World} {g : Nat} {c : Co} (h : IsCo 68 w g c) : Calls Try.prog 20 #[.pointer (some ⟨g, 0, none⟩)] w fun e w' => e = .returned (.bool c.isOpen) ∧ ∃ n, w' = w.drewN n := by
  obtain ⟨c0, c1, c2, c3, c4, c5, f0, f1, f2, f3, f4, f5⟩ := h.facts
  have H := Lib.hid h
  clear h
  unfold Co.isOpen
  by_cases h1 : 0 < c.cycle
  · have b1 : decide (0 < c.cycle) = true := decide_eq_true h1
    by_cases h2 : c.window = 0
    · have b2 : (c.window == 0) = true := by simp [h2]
      have E : Hid ((decide (0 < c.cycle) && (decide (c.window = 0) || decide (c.since < c.window))) = true) := by unfold Hid; simp [h1, h2]
      clear h1 h2
      go_enter Try.func20, Try.ntmps20
      go_wp2_with fail
      go_quiet (fail)
      go_wp2
      go_ret
      rw [E.out]
      exact ⟨rfl, _, rfl⟩
    · have b2 : (c.window == 0) = false := by simp [h2]
      obtain ⟨b, hb⟩ : ∃ b, decide (c.since < c.window) = b := ⟨_, rfl⟩
      have E : Hid ((decide (0 < c.cycle) && (decide (c.window = 0) || decide (c.since < c.window))) = b) := by unfold Hid; simp [h1, h2, hb]
      clear h1 h2
      go_enter Try.func20, Try.ntmps20
      go_wp2_with fail
      go_quiet (fail)
      go_wp2
      go_ret
      rw [E.out]
      exact ⟨rfl, _, rfl⟩
  · have b1 : decide (0 < c.cycle) = false := decide_eq_false h1
    have E : Hid ((decide (0 < c.cycle) && (decide (c.window = 0) || decide (c.since < c.window))) = false) := by unfold Hid; simp [h1]
    clear h1
    go_enter Try.func20, Try.ntmps20
    go_wp2_with fail
    go_quiet (fail)
    go_wp2
    go_ret
    rw [E.out]
    exact ⟨rfl, _, rfl⟩
set_option maxHeartbeats 2000000 in
theorem ROpen_any {w : World} {g : Nat} {c : Co} (h : IsCo 60 w g c) : Calls Try.prog 25 #[.pointer (some ⟨g, 0, none⟩)] w fun e w' => e = .returned (.bool c.isOpen) ∧ ∃ n, w' = w.drewN n := by
  obtain ⟨c0, c1, c2, c3, c4, c5, f0, f1, f2, f3, f4, f5⟩ := h.facts
  have H := Lib.hid h
  clear h
  unfold Co.isOpen
  by_cases h1 : 0 < c.cycle
  · have b1 : decide (0 < c.cycle) = true := decide_eq_true h1
    by_cases h2 : c.window = 0
    · have b2 : (c.window == 0) = true := by simp [h2]
      have E : Hid ((decide (0 < c.cycle) && (decide (c.window = 0) || decide (c.since < c.window))) = true) := by unfold Hid; simp [h1, h2]
      clear h1 h2
      go_enter Try.func25, Try.ntmps25
      go_wp2_with fail
      go_quiet (fail)
      go_wp2
      go_ret
      rw [E.out]
      exact ⟨rfl, _, rfl⟩
    · have b2 : (c.window == 0) = false := by simp [h2]
      obtain ⟨b, hb⟩ : ∃ b, decide (c.since < c.window) = b := ⟨_, rfl⟩
      have E : Hid ((decide (0 < c.cycle) && (decide (c.window = 0) || decide (c.since < c.window))) = b) := by unfold Hid; simp [h1, h2, hb]
      clear h1 h2
      go_enter Try.func25, Try.ntmps25
      go_wp2_with fail
      go_quiet (fail)
      go_wp2
      go_ret
      rw [E.out]
      exact ⟨rfl, _, rfl⟩
  · have b1 : decide (0 < c.cycle) = false := decide_eq_false h1
    have E : Hid ((decide (0 < c.cycle) && (decide (c.window = 0) || decide (c.since < c.window))) = false) := by unfold Hid; simp [h1]
    clear h1
    go_enter Try.func25, Try.ntmps25
    go_wp2_with fail
    go_quiet (fail)
    go_wp2
    go_ret
    rw [E.out]
    exact ⟨rfl, _, rfl⟩
theorem Open_keep {w : World} {g : Nat} {c : Co} (h : IsCo 68 w g c) (b : Bool) (hb : c.isOpen = b) : Calls Try.prog 20 #[.pointer (some ⟨g, 0, none⟩)] w fun e w' => e = .returned (.bool b) ∧ Keep Zero w w' := by
  refine (Open_any h).mono ?_
  rintro e w' ⟨he, n, rfl⟩
  exact ⟨hb ▸ he, (Keep.refl _ _).drewN n⟩
theorem Open_is {w : World} {g : Nat} {c : Co} {n : Nat} {b : Bool} (h : IsCo 68 w g c) (hb : c.isOpen = b) : Calls Try.prog 20 #[.pointer (some ⟨g, 0, none⟩)] (w.drewN n) fun e w' => e = .returned (.bool b) ∧ ∃ m, w' = (w.drewN n).drewN m := hb ▸ Open_any (w := w.drewN n) h
theorem ROpen_is {w : World} {g : Nat} {c : Co} {n : Nat} {b : Bool} (h : IsCo 60 w g c) (hb : c.isOpen = b) : Calls Try.prog 25 #[.pointer (some ⟨g, 0, none⟩)] (w.drewN n) fun e w' => e = .returned (.bool b) ∧ ∃ m, w' = (w.drewN n).drewN m := hb ▸ ROpen_any (w := w.drewN n) h
theorem Cycle_is {w : World} {g : Nat} {c : Co} {n : Nat} (h : IsCo 68 w g c) : Calls Try.prog 22 #[.pointer (some ⟨g, 0, none⟩)] (w.drewN n) fun e w' => e = .returned (.int .u64 c.cycle) ∧ w.drewN n = w' := Cycle_any (w := w.drewN n) h
theorem Wrong_is {w : World} {g : Nat} {c : Co} {n : Nat} (h : IsCo 68 w g c) : Calls Try.prog 14 #[.pointer (some ⟨g, 0, none⟩)] (w.drewN n) fun e w' => e = .returned (.int .u64 c.wrong) ∧ w.drewN n = w' := Wrong_any (w := w.drewN n) h

/-- What can come. -/
def Fits (ov x : Int) : Prop := if ov = 0 then x = 0 else 1 ≤ x ∧ x ≤ ov
instance (ov x : Int) : Decidable (Fits ov x) := by unfold Fits; infer_instance
def TakePost (w : World) (g : Nat) (c : Co) (x : Int) (e : Ending) (w' : World) : Prop :=
  (∃ r, e = .returned (.int .i64 r) ∧ Hid (r = if c.cycle = 0 ∨ x = c.next then 0 else 6)) ∧ IsCo 68 w' g { c with next := after x c.ov, cycle := c.cycle + 1, wrong := if c.cycle = 0 ∨ x = c.next then c.wrong else c.wrong + 1, since := 0 } ∧ Keep (One g) w w'
set_option maxHeartbeats 4000000 in
theorem Take_no {w : World} {g : Nat} {c : Co} (h : IsCo 68 w g c) (hc : Cnt c.ov) (x : Int) (hf : ¬ Fits c.ov x) : Calls Try.prog 13 #[.pointer (some ⟨g, 0, none⟩), .int .i64 x] w fun e w' => e = .returned (.int .i64 8) ∧ w = w' := by
  obtain ⟨c0, c1, c2, c3, c4, c5, f0, f1, f2, f3, f4, f5⟩ := h.facts
  have H := Lib.hid h
  clear h
  by_cases h0 : c.ov = 0
  · have hx : x ≠ 0 := by unfold Fits at hf; rw [if_pos h0] at hf; exact hf
    rw [h0] at c0
    clear h0 hf hc
    rcases Int.lt_or_gt_of_ne hx with k | k
    all_goals
      clear hx
      go_enter Try.func13, Try.ntmps13
      go_wp2
      go_ret
      exact ⟨rfl, rfl⟩
  · have o2 : 2 ≤ c.ov := by unfold Cnt at hc; omega
    have hx : x < 1 ∨ c.ov < x := by unfold Fits at hf; rw [if_neg h0] at hf; omega
    clear h0 hf hc
    by_cases k : x < 1
    · clear hx
      go_enter Try.func13, Try.ntmps13
      go_wp2
      go_ret
      exact ⟨rfl, rfl⟩
    · have k2 : c.ov < x := hx.resolve_left k
      clear hx
      go_enter Try.func13, Try.ntmps13
      go_wp2
      go_ret
      exact ⟨rfl, rfl⟩
set_option maxRecDepth 100000 in
set_option maxHeartbeats 8000000 in
theorem Take_yes {w : World} {g : Nat} {c : Co} (h : IsCo 68 w g c) (hc : Cnt c.ov) (y0 : 0 ≤ c.cycle) (y1 : c.cycle ≤ 1000000000000000) (z0 : 0 ≤ c.wrong) (z1 : c.wrong ≤ 1000000000000000) (x : Int) (hf : Fits c.ov x) : Calls Try.prog 13 #[.pointer (some ⟨g, 0, none⟩), .int .i64 x] w (TakePost w g c x) := by
  obtain ⟨c0, c1, c2, c3, c4, c5, f0, f1, f2, f3, f4, f5⟩ := h.facts
  have H := Lib.hid h
  have HC := Lib.hid hc
  clear h
  by_cases h0 : c.ov = 0
  · have hx : x = 0 := by unfold Fits at hf; rw [if_pos h0] at hf; exact hf
    have o0 : c.ov ≤ 0 := by omega
    have o1 : 0 ≤ c.ov := by omega
    have x0 : 0 ≤ x := by omega
    have x1 : x ≤ 0 := by omega
    clear h0 hf hc hx
    by_cases h1 : c.cycle = 0
    · have b1 : (c.cycle == 0) = true := by simp [h1]
      have R : Hid (c.cycle = 0 ∨ x = c.next) := .inl h1
      clear h1
      go_enter Try.func13, Try.ntmps13
      go_wp2_with ((with_reducible refine (after_any x _ HC.out (by omega) (by omega) _).mono ?_); rintro e w' ⟨rfl, rfl⟩)
      go_ret
      refine ⟨⟨_, rfl, Lib.hid (by rw [if_pos R.out])⟩, ?_, ?_⟩
      · rw [if_pos R.out]
        apply Blk.cast
        · repeat (first | (with_reducible first | apply Blk.set | apply Blk.drewN | apply Blk.drew) | exact H.out)
        · simp [Co.cells]
      · repeat (with_reducible first | exact Keep.refl _ _ | apply Keep.set1 | apply Keep.drewN | apply Keep.drew)
    · have b1 : (c.cycle == 0) = false := by simp [h1]
      by_cases h2 : x = c.next
      · have b2 : (x == c.next) = true := by simp [h2]
        have R : Hid (c.cycle = 0 ∨ x = c.next) := .inr h2
        clear h1 h2
        go_enter Try.func13, Try.ntmps13
        go_wp2_with ((with_reducible refine (after_any x _ HC.out (by omega) (by omega) _).mono ?_); rintro e w' ⟨rfl, rfl⟩)
        go_ret
        refine ⟨⟨_, rfl, Lib.hid (by rw [if_pos R.out])⟩, ?_, ?_⟩
        · rw [if_pos R.out]
          apply Blk.cast
          · repeat (first | (with_reducible first | apply Blk.set | apply Blk.drewN | apply Blk.drew) | exact H.out)
          · simp [Co.cells]
        · repeat (with_reducible first | exact Keep.refl _ _ | apply Keep.set1 | apply Keep.drewN | apply Keep.drew)
      · have b2 : (x == c.next) = false := by simp [h2]
        have R : Hid (¬ (c.cycle = 0 ∨ x = c.next)) := by
          unfold Hid
          omega
        clear h1 h2
        go_enter Try.func13, Try.ntmps13
        go_wp2_with ((with_reducible refine (after_any x _ HC.out (by omega) (by omega) _).mono ?_); rintro e w' ⟨rfl, rfl⟩)
        go_ret
        refine ⟨⟨_, rfl, Lib.hid (by rw [if_neg R.out])⟩, ?_, ?_⟩
        · rw [if_neg R.out]
          apply Blk.cast
          · repeat (first | (with_reducible first | apply Blk.set | apply Blk.drewN | apply Blk.drew) | exact H.out)
          · simp [Co.cells]
        · repeat (with_reducible first | exact Keep.refl _ _ | apply Keep.set1 | apply Keep.drewN | apply Keep.drew)
  · have o2 : 2 ≤ c.ov := by unfold Cnt at hc; omega
    have o3 : c.ov ≤ 240 := by unfold Cnt at hc; omega
    have hx : 1 ≤ x ∧ x ≤ c.ov := by unfold Fits at hf; rw [if_neg h0] at hf; exact hf
    obtain ⟨x0, x1⟩ := hx
    clear h0 hf hc
    by_cases h1 : c.cycle = 0
    · have b1 : (c.cycle == 0) = true := by simp [h1]
      have R : Hid (c.cycle = 0 ∨ x = c.next) := .inl h1
      clear h1
      go_enter Try.func13, Try.ntmps13
      go_wp2_with ((with_reducible refine (after_any x _ HC.out (by omega) (by omega) _).mono ?_); rintro e w' ⟨rfl, rfl⟩)
      go_ret
      refine ⟨⟨_, rfl, Lib.hid (by rw [if_pos R.out])⟩, ?_, ?_⟩
      · rw [if_pos R.out]
        apply Blk.cast
        · repeat (first | (with_reducible first | apply Blk.set | apply Blk.drewN | apply Blk.drew) | exact H.out)
        · simp [Co.cells]
      · repeat (with_reducible first | exact Keep.refl _ _ | apply Keep.set1 | apply Keep.drewN | apply Keep.drew)
    · have b1 : (c.cycle == 0) = false := by simp [h1]
      by_cases h2 : x = c.next
      · have b2 : (x == c.next) = true := by simp [h2]
        have R : Hid (c.cycle = 0 ∨ x = c.next) := .inr h2
        clear h1 h2
        go_enter Try.func13, Try.ntmps13
        go_wp2_with ((with_reducible refine (after_any x _ HC.out (by omega) (by omega) _).mono ?_); rintro e w' ⟨rfl, rfl⟩)
        go_ret
        refine ⟨⟨_, rfl, Lib.hid (by rw [if_pos R.out])⟩, ?_, ?_⟩
        · rw [if_pos R.out]
          apply Blk.cast
          · repeat (first | (with_reducible first | apply Blk.set | apply Blk.drewN | apply Blk.drew) | exact H.out)
          · simp [Co.cells]
        · repeat (with_reducible first | exact Keep.refl _ _ | apply Keep.set1 | apply Keep.drewN | apply Keep.drew)
      · have b2 : (x == c.next) = false := by simp [h2]
        have R : Hid (¬ (c.cycle = 0 ∨ x = c.next)) := by
          unfold Hid
          omega
        clear h1 h2
        go_enter Try.func13, Try.ntmps13
        go_wp2_with ((with_reducible refine (after_any x _ HC.out (by omega) (by omega) _).mono ?_); rintro e w' ⟨rfl, rfl⟩)
        go_ret
        refine ⟨⟨_, rfl, Lib.hid (by rw [if_neg R.out])⟩, ?_, ?_⟩
        · rw [if_neg R.out]
          apply Blk.cast
          · repeat (first | (with_reducible first | apply Blk.set | apply Blk.drewN | apply Blk.drew) | exact H.out)
          · simp [Co.cells]
        · repeat (with_reducible first | exact Keep.refl _ _ | apply Keep.set1 | apply Keep.drewN | apply Keep.drew)
end Go.Proofs.Ytmaajpkkdpaeeaa.Sync
