/- What each function of nmt comes to: its contract. -/
import Derived.Test.YtcmfcnljdeddfaaOwn
namespace Go.Proofs.Ytcmfcnljdeddfaa.Nmt
open Go.RowKit Go.Proofs.Ytcmfcnljdeddfaa.Own

structure Nd where
  id : Int
  next : Int
  state : Int
  boots : Int
  talks : Int
def Nd.cells (d : Nd) : Array Value := #[.int .i64 d.id, .int .i64 d.next, .int .i64 d.state, .int .i64 d.boots, .int .i64 d.talks]
def IsNd (w : World) (g : Nat) (d : Nd) : Prop := Blk w g d.cells 76

theorem IsNd.keep {S : Nat → Prop} {w w1 : World} {g : Nat} {d : Nd} (h : IsNd w g d) (k : Keep S w w1) (hn : ¬ S g) : IsNd w1 g d := Blk.keep h k hn
theorem number_any (x : Int) (w : World) : Calls Try.prog 20 #[.int .i64 x] w fun e w' => e = .returned (.bool (decide (0 ≤ x) && decide (x ≤ 127))) ∧ w = w' := by
  by_cases h : 0 ≤ x
  · have hb : decide (0 ≤ x) = true := decide_eq_true h
    go_enter Try.func20, Try.ntmps20
    go_wp2
    go_ret
    exact ⟨by simp [*], rfl⟩
  · have hb : decide (0 ≤ x) = false := decide_eq_false h
    go_enter Try.func20, Try.ntmps20
    go_wp2
    go_ret
    exact ⟨by simp [*], rfl⟩

theorem New_ok (id : Int) (h0 : 0 ≤ id) (h1 : id ≤ 127) (w : World) :
    Calls Try.prog 5 #[.int .i64 id] w fun e w' => ∃ g, e = .returned (.tuple #[.pointer (some ⟨g, 0, none⟩), .int .i64 0]) ∧ IsNd w' g ⟨id, id, 0, 0, 0⟩ ∧ w.heap.size ≤ g ∧ Keep Zero w w' := by
  have hb : (decide (0 ≤ id) && decide (id ≤ 127)) = true := by simp [h0, h1]
  go_enter Try.func5, Try.ntmps5
  go_wp2_with ((with_reducible refine (number_any id _).mono ?_); rintro e w' ⟨rfl, rfl⟩; rw [hb])
  go_ret2
  exact ⟨_, rfl, Blk.new _ _ _, Nat.le_refl _, (Keep.refl _ _).alloc _⟩

theorem New_bad (id : Int) (h : id < 0 ∨ 127 < id) (w : World) :
    Calls Try.prog 5 #[.int .i64 id] w fun e w' => e = .returned (.tuple #[.pointer none, .int .i64 1]) ∧ w = w' := by
  have hb : (decide (0 ≤ id) && decide (id ≤ 127)) = false := by
    rcases h with h | h
    · simp [show ¬ 0 ≤ id by omega]
    · simp [show ¬ id ≤ 127 by omega]
  go_enter Try.func5, Try.ntmps5
  go_wp2_with ((with_reducible refine (number_any id _).mono ?_); rintro e w' ⟨rfl, rfl⟩; rw [hb])
  go_ret2
  exact ⟨rfl, rfl⟩

theorem IsNd.facts {w : World} {g : Nat} {d : Nd} (h : IsNd w g d) :
    w.cell? ⟨g, 0, none⟩ = some (.int .i64 d.id) ∧ w.cell? ⟨g, 1, none⟩ = some (.int .i64 d.next) ∧ w.cell? ⟨g, 2, none⟩ = some (.int .i64 d.state) ∧ w.cell? ⟨g, 3, none⟩ = some (.int .i64 d.boots) ∧ w.cell? ⟨g, 4, none⟩ = some (.int .i64 d.talks) ∧
    w.frozen? ⟨g, 0, none⟩ = false ∧ w.frozen? ⟨g, 1, none⟩ = false ∧ w.frozen? ⟨g, 2, none⟩ = false ∧ w.frozen? ⟨g, 3, none⟩ = false ∧ w.frozen? ⟨g, 4, none⟩ = false :=
  ⟨h.cell 0, h.cell 1, h.cell 2, h.cell 3, h.cell 4, h.frozen 0, h.frozen 1, h.frozen 2, h.frozen 3, h.frozen 4⟩

theorem State_any {w : World} {g : Nat} {d : Nd} (h : IsNd w g d) : Calls Try.prog 14 #[.pointer (some ⟨g, 0, none⟩)] w fun e w' => e = .returned (.int .i64 d.state) ∧ w = w' := by
  obtain ⟨c0, c1, c2, c3, c4, f0, f1, f2, f3, f4⟩ := h.facts
  clear h
  go_enter Try.func14, Try.ntmps14
  go_wp2
  go_ret
  exact ⟨rfl, rfl⟩

def Nd.step (d : Nd) : Nd := if d.state = 0 ∧ d.id ≠ 0 then { d with state := 127 } else d
def Nd.steps (d : Nd) : Bool := decide (d.state = 0) && !decide (d.id = 0)
def StepPost (w : World) (g : Nat) (d : Nd) (e : Ending) (w' : World) : Prop :=
    ∃ A c, e = .returned (.tuple #[.slice A (if d.steps then [(0 : Int)] else []).length c, .bool d.steps]) ∧ Row w' A (ints .u8 (if d.steps then [0] else [])) ∧ IsNd w' g d.step ∧ Keep (One g) w w' ∧ ∀ a, A = some a → w.heap.size ≤ a.block
theorem Step_any {w : World} {g : Nat} {d : Nd} (h : IsNd w g d) : Calls Try.prog 8 #[.pointer (some ⟨g, 0, none⟩)] w (StepPost w g d) := by
  obtain ⟨c0, c1, c2, c3, c4, f0, f1, f2, f3, f4⟩ := h.facts
  have H := Lib.hid h
  clear h
  by_cases hs : d.state = 0
  · have hb : (d.state == 0) = true := by simp [hs]
    have hb' : (d.state != 0) = false := by simp [hs]
    by_cases hi : d.id = 0
    · have hb2 : (d.id == 0) = true := by simp [hi]
      have e1 : d.steps = false := by simp [Nd.steps, hi]
      have e2 : d.step = d := by simp [Nd.step, hi]
      have E := Lib.hid (And.intro e1 e2)
      clear hs hi e1 e2
      go_enter Try.func8, Try.ntmps8
      go_wp2
      go_ret2
      unfold StepPost
      rw [E.out.1, E.out.2]
      exact ⟨_, _, rfl, Row.nil _ _, H.out, Keep.refl _ _, no_addr⟩
    · have hb2 : (d.id == 0) = false := by simp [hi]
      have e1 : d.steps = true := by simp [Nd.steps, hi, hs]
      have e2 : d.step = { d with state := 127 } := by simp [Nd.step, hi, hs]
      have E := Lib.hid (And.intro e1 e2)
      clear hs hi e1 e2
      go_enter Try.func8, Try.ntmps8
      go_wp2
      go_ret2
      unfold StepPost
      rw [E.out.1, E.out.2]
      refine ⟨_, _, rfl, ?_, ?_, ?_, new_addr _⟩
      · exact Row.blk (Blk.at_ (by simp)) (fun i x hx => by
          match i, hx with
          | 0, hx => simpa [ints] using hx)
      · exact ((H.out.set 2 _).alloc _).cast (by simp [Nd.cells])
      · exact ((Keep.refl _ _).set1 2 _).alloc _
  · have hb : (d.state == 0) = false := by simp [hs]
    have hb' : (d.state != 0) = true := by simp [hs]
    have e1 : d.steps = false := by simp [Nd.steps, hs]
    have e2 : d.step = d := by simp [Nd.step, hs]
    have E := Lib.hid (And.intro e1 e2)
    clear hs e1 e2
    go_enter Try.func8, Try.ntmps8
    go_wp2
    go_ret2
    unfold StepPost
    rw [E.out.1, E.out.2]
    exact ⟨_, _, rfl, Row.nil _ _, H.out, Keep.refl _ _, no_addr⟩

end Go.Proofs.Ytcmfcnljdeddfaa.Nmt
