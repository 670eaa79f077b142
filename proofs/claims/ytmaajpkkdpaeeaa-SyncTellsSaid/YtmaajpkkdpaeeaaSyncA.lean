/- What each small function of sync comes to. -/
import Derived.Test.YtmaajpkkdpaeeaaOwn
import Derived.Deep.RegionHeld3
namespace Go.Proofs.Ytmaajpkkdpaeeaa.Sync
open Go.RowKit Go.Proofs.Ytmaajpkkdpaeeaa.Own
/-- A counter's end that can be. -/
def Cnt (ov : Int) : Prop := ov = 0 ∨ (2 ≤ ov ∧ ov ≤ 240)
instance (ov : Int) : Decidable (Cnt ov) := by unfold Cnt; infer_instance
def after (n ov : Int) : Int := if ov = 0 then 0 else n % ov + 1
theorem after_range {n ov : Int} (h : Cnt ov) : 0 ≤ after n ov ∧ after n ov ≤ 240 := by
  unfold after Cnt at *
  split
  · omega
  · have := Int.emod_nonneg n (b := ov) (by omega)
    have := Int.emod_lt_of_pos n (b := ov) (by omega)
    omega

set_option maxHeartbeats 1000000 in
theorem counts_any (ov : Int) (b : Bool) (hb : b = decide (Cnt ov)) (w : World) : Calls Try.prog 26 #[.int .i64 ov] w fun e w' => e = .returned (.bool b) ∧ w = w' := by
  have HB := Lib.hid hb
  by_cases h0 : ov = 0
  · have t0 : (ov == 0) = true := by simp [h0]
    have e : b = true := by rw [hb]; simp [Cnt, h0]
    subst e
    clear hb HB h0
    go_enter Try.func26, Try.ntmps26
    go_wp2
    go_ret
    exact ⟨rfl, rfl⟩
  have t0 : (ov == 0) = false := by simp [h0]
  by_cases h2 : 2 ≤ ov
  · have t2 : decide (2 ≤ ov) = true := decide_eq_true h2
    have e : b = decide (ov ≤ 240) := by rw [hb]; unfold Cnt; simp [h0, h2]
    have E := Lib.hid e
    clear hb HB h0 e
    go_enter Try.func26, Try.ntmps26
    go_wp2
    go_ret
    rw [E.out]
    exact ⟨rfl, rfl⟩
  · have t2 : decide (2 ≤ ov) = false := decide_eq_false h2
    have e : b = false := by rw [hb]; unfold Cnt; simp [h0, h2]
    subst e
    clear hb HB h0
    go_enter Try.func26, Try.ntmps26
    go_wp2
    go_ret
    exact ⟨rfl, rfl⟩

theorem after_any (n ov : Int) (h : Cnt ov) (hn : 0 ≤ n) (hn1 : n ≤ 1000000) (w : World) : Calls Try.prog 27 #[.int .i64 n, .int .i64 ov] w fun e w' => e = .returned (.int .i64 (after n ov)) ∧ w = w' := by
  by_cases h0 : ov = 0
  · have t0 : (ov == 0) = true := by simp [h0]
    have e : after n ov = 0 := by simp [after, h0]
    have E := Lib.hid e
    clear e h0 h
    go_enter Try.func27, Try.ntmps27
    go_wp2
    go_ret
    rw [E.out]
    exact ⟨rfl, rfl⟩
  · have t0 : (ov == 0) = false := by simp [h0]
    have o2 : 2 ≤ ov := by unfold Cnt at h; omega
    have o3 : ov ≤ 240 := by unfold Cnt at h; omega
    have e : after n ov = n % ov + 1 := by simp [after, h0]
    have E := Lib.hid e
    have m0 := Int.emod_nonneg n (b := ov) (by omega)
    have m1 := Int.emod_lt_of_pos n (b := ov) (by omega)
    clear e h0 h
    go_enter Try.func27, Try.ntmps27
    go_wp2
    go_ret
    rw [E.out]
    exact ⟨rfl, rfl⟩

structure Pr where
  period : Int
  ov : Int
  on : Bool
  left : Int
  next : Int
def Pr.cells (p : Pr) : Array Value := #[.int .u64 p.period, .int .i64 p.ov, .bool p.on, .int .u64 p.left, .int .i64 p.next]
def IsPr (w : World) (g : Nat) (p : Pr) : Prop := Blk w g p.cells 65
theorem IsPr.keep {S : Nat → Prop} {w w1 : World} {g : Nat} {p : Pr} (h : IsPr w g p) (k : Keep S w w1) (hn : ¬ S g) : IsPr w1 g p := Blk.keep h k hn
theorem IsPr.facts {w : World} {g : Nat} {d : Pr} (h : IsPr w g d) :
    w.cell? ⟨g, 0, none⟩ = some (.int .u64 d.period) ∧ w.cell? ⟨g, 1, none⟩ = some (.int .i64 d.ov) ∧ w.cell? ⟨g, 2, none⟩ = some (.bool d.on) ∧ w.cell? ⟨g, 3, none⟩ = some (.int .u64 d.left) ∧ w.cell? ⟨g, 4, none⟩ = some (.int .i64 d.next) ∧
    w.frozen? ⟨g, 0, none⟩ = false ∧ w.frozen? ⟨g, 1, none⟩ = false ∧ w.frozen? ⟨g, 2, none⟩ = false ∧ w.frozen? ⟨g, 3, none⟩ = false ∧ w.frozen? ⟨g, 4, none⟩ = false :=
  ⟨h.cell 0, h.cell 1, h.cell 2, h.cell 3, h.cell 4, h.frozen 0, h.frozen 1, h.frozen 2, h.frozen 3, h.frozen 4⟩
/-- What always holds of a producer. -/
def Pr.ok (p : Pr) : Prop := 1 ≤ p.period ∧ p.period ≤ 4294967296 ∧ Cnt p.ov ∧ 0 ≤ p.left ∧ p.left ≤ p.period ∧ 0 ≤ p.next ∧ p.next ≤ 240 ∧ (p.on = true → 1 ≤ p.left)

structure Rp where
  period : Int
  ov : Int
  on : Bool
  went : Int
  told : Int
def Rp.cells (p : Rp) : Array Value := #[.int .u64 p.period, .int .i64 p.ov, .bool p.on, .int .u64 p.went, .int .i64 p.told]
def IsRp (w : World) (g : Nat) (p : Rp) : Prop := Blk w g p.cells 47
theorem IsRp.keep {S : Nat → Prop} {w w1 : World} {g : Nat} {p : Rp} (h : IsRp w g p) (k : Keep S w w1) (hn : ¬ S g) : IsRp w1 g p := Blk.keep h k hn
theorem IsRp.facts {w : World} {g : Nat} {d : Rp} (h : IsRp w g d) :
    w.cell? ⟨g, 0, none⟩ = some (.int .u64 d.period) ∧ w.cell? ⟨g, 1, none⟩ = some (.int .i64 d.ov) ∧ w.cell? ⟨g, 2, none⟩ = some (.bool d.on) ∧ w.cell? ⟨g, 3, none⟩ = some (.int .u64 d.went) ∧ w.cell? ⟨g, 4, none⟩ = some (.int .i64 d.told) ∧
    w.frozen? ⟨g, 0, none⟩ = false ∧ w.frozen? ⟨g, 1, none⟩ = false ∧ w.frozen? ⟨g, 2, none⟩ = false ∧ w.frozen? ⟨g, 3, none⟩ = false ∧ w.frozen? ⟨g, 4, none⟩ = false :=
  ⟨h.cell 0, h.cell 1, h.cell 2, h.cell 3, h.cell 4, h.frozen 0, h.frozen 1, h.frozen 2, h.frozen 3, h.frozen 4⟩

set_option maxHeartbeats 1000000 in
theorem NewP_ok (p ov : Int) (p1 : 1 ≤ p) (p2 : p ≤ 4294967296) (h : Cnt ov) (w : World) :
    Calls Try.prog 8 #[.int .u64 p, .int .i64 ov] w fun e w' => ∃ g, e = .returned (.tuple #[.pointer (some ⟨g, 0, none⟩), .int .i64 0]) ∧ IsPr w' g ⟨p, ov, false, 0, 0⟩ ∧ w.heap.size ≤ g ∧ Keep Zero w w' := by
  have hb : true = decide (Cnt ov) := by simp [h]
  have HB := Lib.hid hb
  have b1 : decide (p < 1) = false := by simp; omega
  have b2 : decide (4294967296 < p) = false := by simp; omega
  clear hb h
  go_enter Try.func8, Try.ntmps8
  go_wp2_with ((with_reducible refine (counts_any ov true HB.out _).mono ?_); rintro e w' ⟨rfl, rfl⟩)
  go_ret2
  exact ⟨_, rfl, Blk.new _ _ _, Nat.le_refl _, (Keep.refl _ _).alloc _⟩
set_option maxHeartbeats 2000000 in
theorem NewP_bad (p ov : Int) (h : ¬ (1 ≤ p ∧ p ≤ 4294967296 ∧ Cnt ov)) (w : World) :
    Calls Try.prog 8 #[.int .u64 p, .int .i64 ov] w fun e w' => e = .returned (.tuple #[.pointer none, .int .i64 1]) ∧ w = w' := by
  by_cases h1 : p < 1
  · have b1 : decide (p < 1) = true := decide_eq_true h1
    clear h h1
    go_enter Try.func8, Try.ntmps8
    go_wp2
    go_ret2
    exact ⟨rfl, rfl⟩
  by_cases h2 : 4294967296 < p
  · have b1 : decide (p < 1) = false := decide_eq_false h1
    have b2 : decide (4294967296 < p) = true := decide_eq_true h2
    clear h h1 h2
    go_enter Try.func8, Try.ntmps8
    go_wp2
    go_ret2
    exact ⟨rfl, rfl⟩
  have b1 : decide (p < 1) = false := decide_eq_false h1
  have b2 : decide (4294967296 < p) = false := decide_eq_false h2
  have hb : false = decide (Cnt ov) := by
    have : ¬ Cnt ov := fun k => h ⟨by omega, by omega, k⟩
    simp [this]
  have HB := Lib.hid hb
  clear h h1 h2 hb
  go_enter Try.func8, Try.ntmps8
  go_wp2_with ((with_reducible refine (counts_any ov false HB.out _).mono ?_); rintro e w' ⟨rfl, rfl⟩)
  go_ret2
  exact ⟨rfl, rfl⟩

def Pr.start (p : Pr) (b : Bool) : Pr := if b && !p.on then { p with on := b, left := p.period, next := after 0 p.ov } else { p with on := b }
def StartPost (w : World) (g : Nat) (p : Pr) (b : Bool) (e : Ending) (w' : World) : Prop := e = .returned (.tuple #[]) ∧ IsPr w' g (p.start b) ∧ Keep (One g) w w'
set_option maxHeartbeats 2000000 in
theorem Start_any {w : World} {g : Nat} {p : Pr} (h : IsPr w g p) (hc : Cnt p.ov) (b : Bool) : Calls Try.prog 9 #[.pointer (some ⟨g, 0, none⟩), .bool b] w (StartPost w g p b) := by
  obtain ⟨c0, c1, c2, c3, c4, f0, f1, f2, f3, f4⟩ := h.facts
  have H := Lib.hid h
  have HC := Lib.hid hc
  clear h hc
  cases hb : b && !p.on with
  | true =>
    obtain ⟨rfl, ho⟩ : b = true ∧ p.on = false := by simpa using hb
    have e : p.start true = { p with on := true, left := p.period, next := after 0 p.ov } := by simp [Pr.start, ho]
    have E := Lib.hid e
    clear hb e
    go_enter Try.func9, Try.ntmps9
    go_wp2_with fail
    go_region_held3 (fun w' => w'.cell? ⟨g, 0, none⟩ = some (.int .u64 p.period) ∧ w'.cell? ⟨g, 1, none⟩ = some (.int .i64 p.ov)) (first | (go_keep; done) | exact ⟨cell_drew (cell_off (by decide) c0), cell_drew (cell_off (by decide) c1)⟩ | exact ⟨cell_drew (cell_off (by decide) (cell_off (by decide) c0)), cell_drew (cell_off (by decide) (cell_off (by decide) c1))⟩) (first | (go_at_call 27; refine (after_any 0 p.ov HC.out (by omega) (by omega) _).mono ?_; rintro e w' ⟨rfl, rfl⟩))
    go_wp2
    go_end0
    refine ⟨rfl, ?_, ?_⟩
    · rw [E.out]
      apply Blk.cast
      · repeat (first | (with_reducible first | apply Blk.set | apply Blk.drewN | apply Blk.drew) | exact H.out)
      · simp [Pr.cells]
    · repeat (with_reducible first | exact Keep.refl _ _ | apply Keep.set1 | apply Keep.drewN | apply Keep.drew)
  | false =>
    have e : p.start b = { p with on := b } := by simp [Pr.start, hb]
    have E := Lib.hid e
    have hb' : b = false ∨ (b = true ∧ p.on = true) := by cases b <;> simp_all
    clear hb e
    rcases hb' with rfl | ⟨rfl, ho⟩
    all_goals
      go_enter Try.func9, Try.ntmps9
      go_wp2
      go_end0
      refine ⟨rfl, ?_, ?_⟩
      · rw [E.out]
        apply Blk.cast
        · repeat (first | (with_reducible first | apply Blk.set | apply Blk.drewN | apply Blk.drew) | exact H.out)
        · simp [Pr.cells]
      · repeat (with_reducible first | exact Keep.refl _ _ | apply Keep.set1 | apply Keep.drewN | apply Keep.drew)
end Go.Proofs.Ytmaajpkkdpaeeaa.Sync
