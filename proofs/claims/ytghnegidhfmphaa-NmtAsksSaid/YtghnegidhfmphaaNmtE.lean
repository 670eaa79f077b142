/- What the document's functions of nmt come to. -/
import Derived.Test.YtghnegidhfmphaaNmtB
import Derived.Test.YtghnegidhfmphaaNmtC
namespace Go.Proofs.Ytghnegidhfmphaa.Nmt
open Go.RowKit Go.Proofs.Ytghnegidhfmphaa.Own
def IsRf (w : World) (g : Nat) (d : Nd) : Prop := Blk w g d.cells 40
theorem IsRf.facts {w : World} {g : Nat} {d : Nd} (h : IsRf w g d) :
    w.cell? ⟨g, 0, none⟩ = some (.int .i64 d.id) ∧ w.cell? ⟨g, 1, none⟩ = some (.int .i64 d.next) ∧ w.cell? ⟨g, 2, none⟩ = some (.int .i64 d.state) ∧ w.cell? ⟨g, 3, none⟩ = some (.int .i64 d.boots) ∧ w.cell? ⟨g, 4, none⟩ = some (.int .i64 d.talks) ∧
    w.frozen? ⟨g, 0, none⟩ = false ∧ w.frozen? ⟨g, 1, none⟩ = false ∧ w.frozen? ⟨g, 2, none⟩ = false ∧ w.frozen? ⟨g, 3, none⟩ = false ∧ w.frozen? ⟨g, 4, none⟩ = false :=
  ⟨h.cell 0, h.cell 1, h.cell 2, h.cell 3, h.cell 4, h.frozen 0, h.frozen 1, h.frozen 2, h.frozen 3, h.frozen 4⟩

def isB (x : Int) : Bool := x == 1 || x == 2 || x == 128 || x == 129 || x == 130
set_option maxHeartbeats 1000000 in
theorem Is_any (x : Int) (w : World) : Calls Try.prog 21 #[.int .i64 x] w fun e w' => e = .returned (.bool (isB x)) ∧ w = w' := by
  by_cases h1 : x = 1
  · subst h1
    go_enter Try.func21, Try.ntmps21
    go_wp2
    go_ret
    exact ⟨rfl, rfl⟩
  by_cases h2 : x = 2
  · subst h2
    go_enter Try.func21, Try.ntmps21
    go_wp2
    go_ret
    exact ⟨rfl, rfl⟩
  by_cases h3 : x = 128
  · subst h3
    go_enter Try.func21, Try.ntmps21
    go_wp2
    go_ret
    exact ⟨rfl, rfl⟩
  by_cases h4 : x = 129
  · subst h4
    go_enter Try.func21, Try.ntmps21
    go_wp2
    go_ret
    exact ⟨rfl, rfl⟩
  have e1 : (x == 1) = false := by simp [h1]
  have e2 : (x == 2) = false := by simp [h2]
  have e3 : (x == 128) = false := by simp [h3]
  have e4 : (x == 129) = false := by simp [h4]
  have e5 : isB x = (x == 130) := by simp [isB, e1, e2, e3, e4]
  have E := Lib.hid e5
  clear h1 h2 h3 h4 e5
  go_enter Try.func21, Try.ntmps21
  go_wp2
  go_ret
  rw [E.out]
  exact ⟨rfl, rfl⟩

def RStepPost (w : World) (g : Nat) (d : Nd) (e : Ending) (w' : World) : Prop := e = .returned (.bool d.steps) ∧ IsRf w' g d.step ∧ Keep (One g) w w'
set_option maxHeartbeats 1000000 in
theorem RStep_any {w : World} {g : Nat} {d : Nd} (h : IsRf w g d) : Calls Try.prog 18 #[.pointer (some ⟨g, 0, none⟩)] w (RStepPost w g d) := by
  obtain ⟨c0, c1, c2, c3, c4, f0, f1, f2, f3, f4⟩ := h.facts
  have H := Lib.hid h
  clear h
  by_cases hs : d.state = 0
  · have hb : (d.state == 0) = true := by simp [hs]
    have hb' : (d.state != 0) = false := by simp [hs]
    by_cases hi : d.id = 0
    · have hb2 : (d.id == 0) = true := by simp [hi]
      have e1 : d.steps = false := by simp [Nd.steps, hi]
      have e2 : d.step = d := by simp [Nd.step, hi]
      have E := Lib.hid (And.intro e1 e2)
      clear hs hi e1 e2
      go_enter Try.func18, Try.ntmps18
      go_wp2
      go_ret
      unfold RStepPost
      rw [E.out.1, E.out.2]
      exact ⟨rfl, H.out, Keep.refl _ _⟩
    · have hb2 : (d.id == 0) = false := by simp [hi]
      have e1 : d.steps = true := by simp [Nd.steps, hi, hs]
      have e2 : d.step = { d with state := 127 } := by simp [Nd.step, hi, hs]
      have E := Lib.hid (And.intro e1 e2)
      clear hs hi e1 e2
      go_enter Try.func18, Try.ntmps18
      go_wp2
      go_ret
      unfold RStepPost
      rw [E.out.1, E.out.2]
      exact ⟨rfl, (H.out.set 2 _).cast (by simp [Nd.cells]), (Keep.refl _ _).set1 2 _⟩
  · have hb : (d.state == 0) = false := by simp [hs]
    have hb' : (d.state != 0) = true := by simp [hs]
    have e1 : d.steps = false := by simp [Nd.steps, hs]
    have e2 : d.step = d := by simp [Nd.step, hs]
    have E := Lib.hid (And.intro e1 e2)
    clear hs e1 e2
    go_enter Try.func18, Try.ntmps18
    go_wp2
    go_ret
    unfold RStepPost
    rw [E.out.1, E.out.2]
    exact ⟨rfl, H.out, Keep.refl _ _⟩

def RSetPost (w : World) (g : Nat) (d : Nd) (x : Int) (e : Ending) (w' : World) : Prop := e = .returned (.int .i64 (if 0 ≤ x ∧ x ≤ 127 then 0 else 1)) ∧ IsRf w' g (d.sets x) ∧ Keep (One g) w w'
set_option maxHeartbeats 2000000 in
theorem RSetID_any {w : World} {g : Nat} {d : Nd} (h : IsRf w g d) (x : Int) : Calls Try.prog 20 #[.pointer (some ⟨g, 0, none⟩), .int .i64 x] w (RSetPost w g d x) := by
  obtain ⟨c0, c1, c2, c3, c4, f0, f1, f2, f3, f4⟩ := h.facts
  have H := Lib.hid h
  clear h
  by_cases hx : 0 ≤ x ∧ x ≤ 127
  · obtain ⟨x0, x1⟩ := hx
    have hb1 : decide (x < 0) = false := by simp; omega
    have hb2 : decide (127 < x) = false := by simp; omega
    by_cases hs : d.state = 0
    · have hb3 : (d.state == 0) = true := by simp [hs]
      have E := Lib.hid (And.intro (And.intro x0 x1) hs)
      clear hs
      go_enter Try.func20, Try.ntmps20
      go_wp2
      go_ret
      unfold RSetPost Nd.sets
      rw [if_pos E.out.1, if_pos E.out.1, if_pos E.out.2]
      refine ⟨rfl, ?_, ?_⟩
      · apply Blk.cast
        · repeat (first | (with_reducible first | apply Blk.set | apply Blk.drewN) | exact H.out)
        · simp [Nd.cells]
      · repeat (with_reducible first | exact Keep.refl _ _ | apply Keep.set1 | apply Keep.drewN)
    · have hb3 : (d.state == 0) = false := by simp [hs]
      have E := Lib.hid (And.intro (And.intro x0 x1) hs)
      clear hs
      go_enter Try.func20, Try.ntmps20
      go_wp2
      go_ret
      unfold RSetPost Nd.sets
      rw [if_pos E.out.1, if_pos E.out.1, if_neg E.out.2]
      refine ⟨rfl, ?_, ?_⟩
      · apply Blk.cast
        · repeat (first | (with_reducible first | apply Blk.set | apply Blk.drewN) | exact H.out)
        · simp [Nd.cells]
      · repeat (with_reducible first | exact Keep.refl _ _ | apply Keep.set1 | apply Keep.drewN)
  · have E := Lib.hid hx
    by_cases h0 : x < 0
    · clear hx
      have hb1 : decide (x < 0) = true := by simp; omega
      go_enter Try.func20, Try.ntmps20
      go_wp2
      go_ret
      unfold RSetPost Nd.sets
      rw [if_neg E.out, if_neg E.out]
      exact ⟨rfl, H.out, Keep.refl _ _⟩
    · have hb1 : decide (x < 0) = false := by simp; omega
      have hb2 : decide (127 < x) = true := by simp; omega
      clear hx
      go_enter Try.func20, Try.ntmps20
      go_wp2
      go_ret
      unfold RSetPost Nd.sets
      rw [if_neg E.out, if_neg E.out]
      exact ⟨rfl, H.out, Keep.refl _ _⟩

end Go.Proofs.Ytghnegidhfmphaa.Nmt
