/- Between two times that an object of a free type is sent at least Inhibit ticks go by: plain law. -/
import Derived.Test.YtcgnkabblmoboaaPdoSends
namespace Go.Proofs.Ytcgnkabblmoboaa.Pdo
open Go.RowKit Go.Proofs.Ytcgnkabblmoboaa.Own
/-- A sender of a free type is quiet for as long as is left of its inhibit time. -/
structure Qt (t i : Int) (s : Sd) (ticks : Int) (any : Bool) : Prop where
  typ : s.typ = t
  inh : s.inh = i
  on : s.on = true
  t0 : 0 ≤ ticks
  q : freeB t = true → s.quiet = if any = true ∧ ticks < i then i - ticks else 0
def qticks (k ticks : Int) : Int := if k = 2 then ticks + 1 else ticks
theorem Qt.act {t i : Int} {s : Sd} {ticks : Int} {any : Bool} (h : Qt t i s ticks any) (i0 : 0 ≤ i) (k : Int) (b : Bool) (hk : k ≠ 3) :
    ((s.act k b).1 = true → freeB t = true → ¬ (any = true ∧ qticks k ticks < i)) ∧
    Qt t i (s.act k b).2 (if (s.act k b).1 && freeB t then 0 else qticks k ticks) (if (s.act k b).1 && freeB t then true else any) := by
  obtain ⟨rfl, rfl, on, t0, q⟩ := h
  unfold Sd.act qticks
  by_cases h0 : k = 0
  · subst h0
    simp only [if_true]
    rw [if_neg (by decide : ¬ (0 : Int) = 2)]
    unfold Sd.event
    rw [on]
    simp only [if_true]
    cases hf : freeB s.typ with
    | false =>
      simp only [Bool.false_and, Bool.false_eq_true, if_false, Bool.and_false]
      exact ⟨(fun h => by cases h), rfl, rfl, rfl, t0, (fun h => by simp [hf] at h)⟩
    | true =>
      have q := q hf
      by_cases hq : s.quiet = 0
      · simp only [hq, decide_true, Bool.and_self, if_true]
        refine ⟨fun _ _ hh => ?_, rfl, rfl, on, Int.le_refl _, fun _ => ?_⟩
        · rw [if_pos hh] at q
          omega
        · simp only [Sd.sent, true_and]
          split <;> omega
      · simp only [hq, decide_false, Bool.and_false, Bool.false_eq_true, if_false, Bool.false_and]
        exact ⟨(fun h => by cases h), rfl, rfl, rfl, t0, fun _ => q⟩
  rw [if_neg h0]
  by_cases h1 : k = 1
  · subst h1
    simp only [if_true]
    rw [if_neg (by decide : ¬ (1 : Int) = 2)]
    unfold Sd.sync
    rw [on]
    cases hf : freeB s.typ with
    | false =>
      simp only [Bool.not_false, Bool.and_self, if_true, Bool.and_false, Bool.false_eq_true, if_false]
      refine ⟨fun _ h => by simp at h, ?_⟩
      by_cases hz : s.typ = 0
      · rw [if_pos hz]
        exact ⟨rfl, rfl, rfl, t0, (fun h => by simp [hf] at h)⟩
      · rw [if_neg hz]
        exact ⟨rfl, rfl, rfl, t0, (fun h => by simp [hf] at h)⟩
    | true =>
      simp only [Bool.not_true, Bool.and_false, Bool.false_eq_true, if_false, Bool.false_and]
      exact ⟨(fun h => by cases h), rfl, rfl, on, t0, q⟩
  rw [if_neg h1]
  by_cases h2 : k = 2
  · subst h2
    simp only [if_true]
    unfold Sd.tick
    rw [on]
    cases hf : freeB s.typ with
    | false =>
      simp only [Bool.and_false, Bool.false_eq_true, if_false]
      exact ⟨(fun h => by cases h), rfl, rfl, on, by omega, (fun h => by simp [hf] at h)⟩
    | true =>
      have q := q hf
      simp only [Bool.and_self, if_true]
      have q2 : (if 0 < s.quiet then s.quiet - 1 else s.quiet) = if any = true ∧ ticks + 1 < s.inh then s.inh - (ticks + 1) else 0 := by
        rw [q]
        cases any
        · simp
        · simp only [true_and]
          split <;> split <;> (try split) <;> omega
      by_cases hc : (if 0 < s.quiet then s.quiet - 1 else s.quiet) = 0 ∧ (s.waits = true ∨ 0 < s.ev ∧ s.ev ≤ s.since + 1)
      · rw [if_pos hc]
        simp only [Bool.and_self, if_true]
        refine ⟨fun _ _ hh => ?_, rfl, rfl, rfl, Int.le_refl _, fun _ => ?_⟩
        · have := hc.1
          rw [q2, if_pos hh] at this
          omega
        · simp only [Sd.sent, true_and]
          split <;> omega
      · rw [if_neg hc]
        simp only [Bool.false_and, Bool.false_eq_true, if_false]
        exact ⟨(fun h => by cases h), rfl, rfl, rfl, by omega, fun _ => q2⟩
  rw [if_neg h2, if_neg hk, if_neg h2]
  simp only [Bool.false_and, Bool.false_eq_true, if_false]
  exact ⟨(fun h => by cases h), rfl, rfl, on, t0, q⟩
def DoesQ (t i : Int) (w w' : World) (g f : Nat) (n tk : Int) (any : Bool) (e : Ending) : Prop :=
  ∃ (r : Bool) (s' : Sd) (d' : Rs), e = .returned (.tuple #[.bool r, .bool r]) ∧ IsSd w' g s' ∧ IsRs w' f d' ∧ Keep (Two g f) w w' ∧ Rel s' d' (n + 1) ∧
    (r = true → freeB t = true → ¬ (any = true ∧ tk < i)) ∧ Qt t i s' (if r && freeB t then 0 else tk) (if r && freeB t then true else any)
theorem DoesPost.qt {t i : Int} {w w' : World} {g f : Nat} {s : Sd} {d : Rs} {n : Int} {k : Int} {b : Bool} {e : Ending} {ticks : Int} {any : Bool} (h : DoesPost w g f (s.act k b) (d.act k b) e w') (hr : Rel s d n) (hq : Qt t i s ticks any) (i0 : 0 ≤ i) (hk : k ≠ 3) (tk : Int) (ht : tk = qticks k ticks) :
    DoesQ t i w w' g f n tk any e := by
  obtain ⟨rfl, h1, h2, h3⟩ := h
  obtain ⟨r1, r2⟩ := hr.act k b
  obtain ⟨q1, q2⟩ := hq.act i0 k b hk
  subst ht
  exact ⟨_, _, _, by rw [← r1], h1, h2, h3, r2, q1, q2⟩
/-- What is left of the last wait. -/
structure Lst (t i : Int) (sb : Bool) (s : Sd) (m : Nat) : Prop where
  typ : s.typ = t
  on : s.on = true
  k0 : 0 ≤ s.since
  k1 : s.since ≤ 40000000000000000 + m
  un : sb = false → s.waits = true ∧ 0 < s.quiet ∧ s.quiet + m ≤ i
theorem Lst.tick {t i : Int} {s : Sd} {m : Nat} (h : Lst t i false s m) (hf : freeB t = true) {sb : Bool} {sv : Sd} (he : s.tick = (sb, sv)) : Lst t i sb sv (m + 1) := by
  obtain ⟨rfl, on, k0, k1, un⟩ := h
  obtain ⟨u1, u2, u3⟩ := un rfl
  unfold Sd.tick at he
  rw [on, hf] at he
  simp only [Bool.and_self, if_true] at he
  rw [if_pos u2] at he
  by_cases hc : s.quiet - 1 = 0 ∧ (s.waits = true ∨ 0 < s.ev ∧ s.ev ≤ s.since + 1)
  · rw [if_pos hc] at he
    simp only [Prod.mk.injEq] at he
    obtain ⟨rfl, rfl⟩ := he
    exact ⟨rfl, rfl, Int.le_refl _, by simp only [Sd.sent]; omega, fun h => by cases h⟩
  · rw [if_neg hc] at he
    simp only [Prod.mk.injEq] at he
    obtain ⟨rfl, rfl⟩ := he
    refine ⟨rfl, rfl, by simp only; omega, by simp only; omega, fun _ => ⟨u1, ?_, by simp only; omega⟩⟩
    have : ¬ (s.quiet - 1 = 0) := fun h => hc ⟨h, .inl u1⟩
    simp only
    omega
end Go.Proofs.Ytcgnkabblmoboaa.Pdo
